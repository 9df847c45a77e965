/- Quoted texts: plain. -/
import Derived.Test.YtlmdpmfahfgjkaaDoorNmP
import Derived.Test.YtlmdpmfahfgjkaaDoorGlN
import Derived.Test.YtlmdpmfahfgjkaaDoorGlM
namespace Go.Proofs.YtlmdpmfahfgjkaaDoor
set_option maxRecDepth 100000
set_option linter.unusedVariables false
set_option linter.unusedSimpArgs false
open Go.RowKit
theorem list4 (l : List UInt8) (k : Nat) (h : k < l.length) : l = l.take k ++ l.drop k := (List.take_append_drop k l).symm
theorem u8_ext {a b : UInt8} (h : (a.toNat : Int) = b.toNat) : a = b := UInt8.toNat_inj.1 (by omega)
theorem b4_cons (x : UInt8) (l : List UInt8) (k : Nat) : b4 (x :: l) (k + 1) = b4 l k := by unfold b4; simp
theorem b4_head (x : UInt8) (l : List UInt8) : b4 (x :: l) 0 = x.toNat := by unfold b4; simp
theorem b4_out (l : List UInt8) (k : Nat) (h : l.length ≤ k) : b4 l k = 0 := by
  unfold b4
  rw [List.getD_eq_getElem?_getD, List.getElem?_eq_none h]
  rfl
theorem b4_lt (l : List UInt8) (k : Nat) : b4 l k < 256 := by unfold b4; exact UInt8.toNat_lt _
theorem two_of (l : List UInt8) (h : 2 ≤ l.length) : ∃ x1 x2 r, l = x1 :: x2 :: r := by
  cases l with
  | nil => simp at h
  | cons x1 l =>
    cases l with
    | nil => simp at h
    | cons x2 r => exact ⟨x1, x2, r, rfl⟩
theorem three_of (l : List UInt8) (h : 3 ≤ l.length) : ∃ x1 x2 x3 r, l = x1 :: x2 :: x3 :: r := by
  cases l with
  | nil => simp at h
  | cons x1 l =>
    obtain ⟨x2, x3, r, rfl⟩ := two_of l (by simpa using h)
    exact ⟨x1, x2, x3, r, rfl⟩
set_option maxHeartbeats 400000 in
/-- What is read is what stands there. -/
theorem dl_bytes (l : List UInt8) (h : (dl l).2 ≠ 0) : l = utfI (dl l).1 ++ l.drop (dl l).2 ∧ (utfI ((dl l).1 : Int)).length = (dl l).2 := by
  cases l with
  | nil => exact absurd rfl h
  | cons x0 l =>
    have hd : dl (x0 :: l) = rnN (l.length + 1) x0.toNat (b4 l 0) (b4 l 1) (b4 l 2) := by
      unfold dl
      rw [if_neg (by simp), b4_head, b4_cons, b4_cons, b4_cons, List.length_cons]
    rw [hd] at h ⊢
    have hx := UInt8.toNat_lt x0
    by_cases c1 : x0.toNat < 128
    · rw [rnN_1 _ _ _ _ _ c1]
      simp only
      have q := utfI_1 (x0.toNat : Int) (by omega) (by omega)
      rw [q, (u8n_eq (x0.toNat : Int) x0 (by omega) (by omega)).2 rfl]
      exact ⟨rfl, rfl⟩
    by_cases c2 : x0.toNat < 192
    · rw [rnN_1n _ _ _ _ _ (by omega) c2] at h
      exact absurd rfl h
    by_cases c3 : x0.toNat ≤ 223
    · by_cases hb : 1 < l.length + 1 ∧ b4 l 0 / 64 = 2
      · by_cases hv : 128 ≤ x0.toNat % 32 * 64 + b4 l 0 % 64
        · rw [rnN_2 _ _ _ _ _ (by omega) c3 hb hv]
          cases l with
          | nil => simp at hb
          | cons x1 l =>
            rw [b4_head] at hb hv ⊢
            have hx1 := UInt8.toNat_lt x1
            simp only
            have q := utfI_2 ((x0.toNat % 32 * 64 + x1.toNat % 64 : Nat) : Int) (by omega) (by omega)
            have e0 := (u8n_eq (192 + ((x0.toNat % 32 * 64 + x1.toNat % 64 : Nat) : Int) / 64) x0 (by omega) (by omega)).2 (by omega)
            have e1 := (u8n_eq (128 + ((x0.toNat % 32 * 64 + x1.toNat % 64 : Nat) : Int) % 64) x1 (by omega) (by omega)).2 (by omega)
            rw [q, e0, e1]
            exact ⟨rfl, rfl⟩
        · rw [rnN_2n _ _ _ _ _ (by omega) c3 (.inr (by omega))] at h
          exact absurd rfl h
      · rw [rnN_2n _ _ _ _ _ (by omega) c3 (.inl hb)] at h
        exact absurd rfl h
    by_cases c4 : x0.toNat ≤ 239
    · by_cases hb : (1 < l.length + 1 ∧ b4 l 0 / 64 = 2) ∧ (2 < l.length + 1 ∧ b4 l 1 / 64 = 2)
      · by_cases hv : ok3 (x0.toNat % 16 * 4096 + b4 l 0 % 64 * 64 + b4 l 1 % 64)
        · rw [rnN_3 _ _ _ _ _ (by omega) c4 hb hv]
          obtain ⟨x1, x2, l, rfl⟩ := two_of l (by omega)
          all_goals
            rw [b4_head, b4_cons, b4_head] at hb hv ⊢
            have hx1 := UInt8.toNat_lt x1
            have hx2 := UInt8.toNat_lt x2
            unfold ok3 at hv
            simp only
            have q := utfI_3 ((x0.toNat % 16 * 4096 + x1.toNat % 64 * 64 + x2.toNat % 64 : Nat) : Int) (by omega) (by omega) (by omega)
            have e0 := (u8n_eq (224 + ((x0.toNat % 16 * 4096 + x1.toNat % 64 * 64 + x2.toNat % 64 : Nat) : Int) / 4096) x0 (by omega) (by omega)).2 (by omega)
            have e1 := (u8n_eq (128 + ((x0.toNat % 16 * 4096 + x1.toNat % 64 * 64 + x2.toNat % 64 : Nat) : Int) / 64 % 64) x1 (by omega) (by omega)).2 (by omega)
            have e2 := (u8n_eq (128 + ((x0.toNat % 16 * 4096 + x1.toNat % 64 * 64 + x2.toNat % 64 : Nat) : Int) % 64) x2 (by omega) (by omega)).2 (by omega)
            rw [q, e0, e1, e2]
            exact ⟨rfl, rfl⟩
        · rw [rnN_3n _ _ _ _ _ (by omega) c4 (.inr hv)] at h
          exact absurd rfl h
      · rw [rnN_3n _ _ _ _ _ (by omega) c4 (.inl hb)] at h
        exact absurd rfl h
    by_cases hb : (1 < l.length + 1 ∧ b4 l 0 / 64 = 2) ∧ (2 < l.length + 1 ∧ b4 l 1 / 64 = 2) ∧ (3 < l.length + 1 ∧ b4 l 2 / 64 = 2)
    · by_cases c5 : x0.toNat ≤ 247
      · by_cases hv : ok4 (x0.toNat % 8 * 262144 + b4 l 0 % 64 * 4096 + b4 l 1 % 64 * 64 + b4 l 2 % 64)
        · rw [rnN_4 _ _ _ _ _ (by omega) c5 hb hv]
          obtain ⟨x1, x2, x3, l, rfl⟩ := three_of l (by omega)
          all_goals
            rw [b4_head, b4_cons, b4_head, b4_cons, b4_cons, b4_head] at hb hv ⊢
            have hx1 := UInt8.toNat_lt x1
            have hx2 := UInt8.toNat_lt x2
            have hx3 := UInt8.toNat_lt x3
            unfold ok4 at hv
            simp only
            have q := utfI_4 ((x0.toNat % 8 * 262144 + x1.toNat % 64 * 4096 + x2.toNat % 64 * 64 + x3.toNat % 64 : Nat) : Int) (by omega) (by omega)
            have e0 := (u8n_eq (240 + ((x0.toNat % 8 * 262144 + x1.toNat % 64 * 4096 + x2.toNat % 64 * 64 + x3.toNat % 64 : Nat) : Int) / 262144) x0 (by omega) (by omega)).2 (by omega)
            have e1 := (u8n_eq (128 + ((x0.toNat % 8 * 262144 + x1.toNat % 64 * 4096 + x2.toNat % 64 * 64 + x3.toNat % 64 : Nat) : Int) / 4096 % 64) x1 (by omega) (by omega)).2 (by omega)
            have e2 := (u8n_eq (128 + ((x0.toNat % 8 * 262144 + x1.toNat % 64 * 4096 + x2.toNat % 64 * 64 + x3.toNat % 64 : Nat) : Int) / 64 % 64) x2 (by omega) (by omega)).2 (by omega)
            have e3 := (u8n_eq (128 + ((x0.toNat % 8 * 262144 + x1.toNat % 64 * 4096 + x2.toNat % 64 * 64 + x3.toNat % 64 : Nat) : Int) % 64) x3 (by omega) (by omega)).2 (by omega)
            rw [q, e0, e1, e2, e3]
            exact ⟨rfl, rfl⟩
        · rw [rnN_4n _ _ _ _ _ (by omega) (.inr (.inr hv)) (by omega)] at h
          exact absurd rfl h
      · rw [rnN_4n _ _ _ _ _ (by omega) (.inr (.inl (by omega))) (by omega)] at h
        exact absurd rfl h
    · rw [rnN_4n _ _ _ _ _ (by omega) (.inl hb) (by omega)] at h
      exact absurd rfl h
theorem dl_utf (c : Int) (l : List UInt8) (h : utfI c ≠ []) : dl (utfI c ++ l) = (c.toNat, (utfI c).length) ∧ 0 ≤ c := by
  have := rn_utf c (str l) h
  rw [rn_dl] at this
  have e : (str (utfI c) ++ str l).data.toList = utfI c ++ l := by unfold str; simp
  rw [e] at this
  exact this
/-- A sign that has bytes. -/
def okc (c : Int) : Prop := utfI c ≠ []
theorem sg_utf (c : Int) (l : List UInt8) (h : okc c) : sg (utfI c ++ l) = (sg l).map fun r => c :: r := by
  obtain ⟨h1, h2⟩ := dl_utf c l h
  have hp : 0 < (utfI c).length := List.length_pos_iff.2 h
  rw [sg_go (by rw [List.length_append]; omega) (by rw [h1]; simp only; omega), h1]
  simp only
  rw [List.drop_left, Int.toNat_of_nonneg h2]
theorem sg_all : ∀ cs : List Int, (∀ c ∈ cs, okc c) → sg (cs.flatMap utfI) = some cs
  | [], _ => rfl
  | c :: cs, h => by
    rw [List.flatMap_cons, sg_utf c _ (h c (List.mem_cons_self ..)), sg_all cs fun x hx => h x (List.mem_cons_of_mem _ hx)]
    rfl
theorem sgF_bytes : ∀ (f : Nat) (l : List UInt8) (cs : List Int), l.length ≤ f → sgF f l = some cs → l = cs.flatMap utfI ∧ ∀ c ∈ cs, okc c
  | 0, l, cs, hf, h => by
    injection h with h
    subst h
    have : l = [] := List.eq_nil_of_length_eq_zero (by omega)
    subst this
    exact ⟨rfl, fun c hc => by simp at hc⟩
  | f + 1, l, cs, hf, h => by
    rw [sgF] at h
    split at h
    · injection h with h
      subst h
      rename_i h0
      have : l = [] := List.eq_nil_of_length_eq_zero h0
      subst this
      exact ⟨rfl, fun c hc => by simp at hc⟩
    · split at h
      · cases h
      · rename_i h0 hd
        rw [Option.map_eq_some_iff] at h
        obtain ⟨r, h1, h2⟩ := h
        subst h2
        obtain ⟨b1, b2⟩ := dl_bytes l hd
        obtain ⟨i1, i2⟩ := sgF_bytes f _ r (by rw [List.length_drop]; omega) h1
        refine ⟨?_, ?_⟩
        · rw [List.flatMap_cons, ← i1]
          exact b1
        · intro c hc
          rcases List.mem_cons.1 hc with rfl | hc
          · intro e
            rw [e] at b2
            simp at b2
            omega
          · exact i2 c hc
theorem sg_bytes {l : List UInt8} {cs : List Int} (h : sg l = some cs) : l = cs.flatMap utfI ∧ ∀ c ∈ cs, okc c := sgF_bytes _ l cs (Nat.le_refl _) h
theorem sg_inj {l l' : List UInt8} {cs : List Int} (h : sg l = some cs) (h' : sg l' = some cs) : l = l' := (sg_bytes h).1.trans (sg_bytes h').1.symm
/-- Has a byte a meaning in a pattern? -/
def spB (x : UInt8) : Bool := x == 42 || x == 63 || x == 91 || x == 92
def q1 (x : UInt8) : List UInt8 := if spB x then [92, x] else [x]
/-- The bytes that Quote makes. -/
def quote (l : List UInt8) : List UInt8 := l.flatMap q1
theorem quote_cons (x : UInt8) (l : List UInt8) : quote (x :: l) = q1 x ++ quote l := by unfold quote; rw [List.flatMap_cons]
theorem quote_append (l r : List UInt8) : quote (l ++ r) = quote l ++ quote r := by unfold quote; rw [List.flatMap_append]
theorem quote_len (l : List UInt8) : (quote l).length ≤ 2 * l.length := by
  induction l with
  | nil => simp [quote]
  | cons x l ih =>
    rw [quote_cons, List.length_append, List.length_cons]
    have : (q1 x).length ≤ 2 := by unfold q1; split <;> simp
    omega
theorem sp_low {x : UInt8} (h : spB x = true) : x.toNat < 128 := by
  unfold spB at h
  simp only [Bool.or_eq_true, beq_iff_eq] at h
  rcases h with ((h | h) | h) | h <;> (subst h; decide)
theorem q1_high {x : UInt8} (h : 128 ≤ x.toNat) : q1 x = [x] := by
  unfold q1
  rw [if_neg]
  intro hs
  have := sp_low hs
  omega
theorem quote_high : ∀ l : List UInt8, (∀ x ∈ l, 128 ≤ x.toNat) → quote l = l
  | [], _ => rfl
  | x :: l, h => by
    rw [quote_cons, q1_high (h x (List.mem_cons_self ..)), quote_high l fun y hy => h y (List.mem_cons_of_mem _ hy)]
    rfl
/-- A quoted text that begins with high bytes: the text does. -/
theorem quote_pre : ∀ (p l r : List UInt8), (∀ x ∈ p, 128 ≤ x.toNat) → quote l = p ++ r → ∃ l', l = p ++ l'
  | [], l, _, _, _ => ⟨l, rfl⟩
  | y :: p, l, r, h, e => by
    cases l with
    | nil => unfold quote at e; simp at e
    | cons x l =>
      rw [quote_cons] at e
      have hy := h y (List.mem_cons_self ..)
      by_cases hx : spB x = true
      · unfold q1 at e
        rw [if_pos hx] at e
        simp only [List.cons_append, List.cons.injEq] at e
        rw [← e.1] at hy
        exact absurd hy (by decide)
      · unfold q1 at e
        rw [if_neg hx] at e
        simp only [List.cons_append, List.nil_append, List.cons.injEq] at e
        obtain ⟨e1, e2⟩ := e
        obtain ⟨l', hl⟩ := quote_pre p l r (fun z hz => h z (List.mem_cons_of_mem _ hz)) e2
        exact ⟨l', by rw [e1, hl]; rfl⟩
/-- Has a sign a meaning in a pattern? -/
def spC (c : Int) : Bool := c == 42 || c == 63 || c == 91 || c == 92
def qc (c : Int) : List Int := if spC c then [92, c] else [c]
theorem utf_high {c : Int} (h : 128 ≤ c) : ∀ x ∈ utfI c, 128 ≤ x.toNat := by
  intro x hx
  have hl := utfI_len c
  by_cases e1 : (utfI c).length = 1
  · have := (hl.2.1 e1).2; omega
  by_cases e2 : (utfI c).length = 2
  · obtain ⟨a, b⟩ := hl.2.2.1 e2
    rw [utfI_2 c a b] at hx
    have g0 := u8n_nat (192 + c / 64) (by omega) (by omega)
    have g1 := u8n_nat (128 + c % 64) (by omega) (by omega)
    simp only [List.mem_cons, List.not_mem_nil, or_false] at hx
    rcases hx with rfl | rfl <;> omega
  by_cases e3 : (utfI c).length = 3
  · obtain ⟨a, b, d⟩ := hl.2.2.2.1 e3
    rw [utfI_3 c a b d] at hx
    have g0 := u8n_nat (224 + c / 4096) (by omega) (by omega)
    have g1 := u8n_nat (128 + c / 64 % 64) (by omega) (by omega)
    have g2 := u8n_nat (128 + c % 64) (by omega) (by omega)
    simp only [List.mem_cons, List.not_mem_nil, or_false] at hx
    rcases hx with rfl | rfl | rfl <;> omega
  by_cases e4 : (utfI c).length = 4
  · obtain ⟨a, b⟩ := hl.2.2.2.2 e4
    rw [utfI_4 c a b] at hx
    have g0 := u8n_nat (240 + c / 262144) (by omega) (by omega)
    have g1 := u8n_nat (128 + c / 4096 % 64) (by omega) (by omega)
    have g2 := u8n_nat (128 + c / 64 % 64) (by omega) (by omega)
    have g3 := u8n_nat (128 + c % 64) (by omega) (by omega)
    simp only [List.mem_cons, List.not_mem_nil, or_false] at hx
    rcases hx with rfl | rfl | rfl | rfl <;> omega
  · have : utfI c = [] := List.eq_nil_of_length_eq_zero (by omega)
    rw [this] at hx
    simp at hx
theorem okc_low {c : Int} (h : okc c) : 0 ≤ c := (dl_utf c [] h).2
theorem ok92 : okc 92 := by unfold okc; decide
theorem sp_eq (c : Int) (h0 : 0 ≤ c) (h : c < 128) : spB (u8n c) = spC c := by
  have g := u8n_int c h0 (by omega)
  unfold spB spC
  have e : ∀ k : UInt8, ((u8n c) == k) = (c == (k.toNat : Int)) := by
    intro k
    rw [Bool.eq_iff_iff, beq_iff_eq, beq_iff_eq]
    exact u8n_eq c k h0 (by omega)
  rw [e, e, e, e]
  rfl
theorem quote_utf {c : Int} (h : okc c) : quote (utfI c) = (qc c).flatMap utfI := by
  have h0 := okc_low h
  by_cases hc : c < 128
  · have u92 : utfI 92 = [92] := by decide
    rw [utfI_1 c h0 hc, quote_cons]
    unfold q1 qc
    rw [sp_eq c h0 hc]
    split
    · simp [quote, u92, utfI_1 c h0 hc]
    · simp [quote, utfI_1 c h0 hc]
  · have hs : spC c = false := by
      unfold spC
      simp
      omega
    rw [quote_high _ (utf_high (by omega))]
    unfold qc
    rw [hs]
    simp
def qcs (cs : List Int) : List Int := cs.flatMap qc
theorem quote_all : ∀ cs : List Int, (∀ c ∈ cs, okc c) → quote (cs.flatMap utfI) = (qcs cs).flatMap utfI
  | [], _ => rfl
  | c :: cs, h => by
    unfold qcs
    rw [List.flatMap_cons, quote_append, quote_utf (h c (List.mem_cons_self ..)), quote_all cs fun x hx => h x (List.mem_cons_of_mem _ hx), List.flatMap_cons, List.flatMap_append]
    rfl
theorem qcs_ok {cs : List Int} (h : ∀ c ∈ cs, okc c) : ∀ c ∈ qcs cs, okc c := by
  intro c hc
  unfold qcs at hc
  rw [List.mem_flatMap] at hc
  obtain ⟨d, hd, hc⟩ := hc
  unfold qc at hc
  split at hc
  · simp only [List.mem_cons, List.not_mem_nil, or_false] at hc
    rcases hc with rfl | rfl
    · exact ok92
    · exact h _ hd
  · simp only [List.mem_cons, List.not_mem_nil, or_false] at hc
    subst hc
    exact h _ hd
theorem sg_quote {l : List UInt8} {cs : List Int} (h : sg l = some cs) : sg (quote l) = some (qcs cs) := by
  obtain ⟨h1, h2⟩ := sg_bytes h
  rw [h1, quote_all cs h2]
  exact sg_all _ (qcs_ok h2)
theorem sgF_quote_bad : ∀ (f : Nat) (l : List UInt8), l.length ≤ f → sg l = none → sg (quote l) = none
  | 0, l, hf, h => by
    have : l = [] := List.eq_nil_of_length_eq_zero (by omega)
    subst this
    cases h
  | f + 1, l, hf, h => by
    cases l with
    | nil => cases h
    | cons x l =>
      by_cases hd : (dl (x :: l)).2 = 0
      · have hx : 128 ≤ x.toNat := by
          refine Nat.le_of_not_lt fun q => ?_
          have e : dl (x :: l) = (x.toNat, 1) := by
            unfold dl
            rw [if_neg (by simp), b4_head, rnN_1 _ _ _ _ _ q]
          rw [e] at hd
          cases hd
        have hq : quote (x :: l) = x :: quote l := by rw [quote_cons, q1_high hx]; rfl
        by_cases hd' : (dl (quote (x :: l))).2 = 0
        · exact sg_bad (by rw [hq]; simp) hd'
        · exfalso
          obtain ⟨b1, b2⟩ := dl_bytes _ hd'
          generalize hc : ((dl (quote (x :: l))).1 : Int) = c at *
          have hne : okc c := by
            intro e
            rw [e] at b2
            simp at b2
            omega
          have hc128 : 128 ≤ c := by
            refine Int.le_of_not_gt fun q => ?_
            rw [hq, utfI_1 c (okc_low hne) q] at b1
            simp only [List.cons_append, List.cons.injEq] at b1
            have g := u8n_int c (okc_low hne) (by omega)
            rw [← b1.1] at g
            omega
          obtain ⟨l', hl⟩ := quote_pre _ _ _ (utf_high hc128) b1
          rw [hl, (dl_utf c l' hne).1] at hd
          have : 0 < (utfI c).length := List.length_pos_iff.2 hne
          simp only at hd
          omega
      · obtain ⟨b1, b2⟩ := dl_bytes _ hd
        rw [sg_go (by simp) hd, Option.map_eq_none_iff] at h
        have i1 := sgF_quote_bad f _ (by rw [List.length_drop, List.length_cons] ; simp only [List.length_cons] at hf; omega) h
        have hne : okc ((dl (x :: l)).1 : Int) := by
          intro e
          rw [e] at b2
          simp at b2
          omega
        rw [b1, quote_append, quote_utf hne]
        have hall : ∀ (ds : List Int) (r : List UInt8), (∀ d ∈ ds, okc d) → sg r = none → sg (ds.flatMap utfI ++ r) = none := by
          intro ds
          induction ds with
          | nil => intro r _ h; exact h
          | cons d ds ih =>
            intro r hd h
            rw [List.flatMap_cons, List.append_assoc, sg_utf d _ (hd d (List.mem_cons_self ..)), ih r (fun y hy => hd y (List.mem_cons_of_mem _ hy)) h]
            rfl
        refine hall _ _ (fun d hd => ?_) i1
        have := qcs_ok (cs := [((dl (x :: l)).1 : Int)]) (fun c hc => by simp only [List.mem_cons, List.not_mem_nil, or_false] at hc; subst hc; exact hne) d
        unfold qcs at this
        simp only [List.flatMap_cons, List.flatMap_nil, List.append_nil] at this
        exact this hd
theorem sg_quote_bad {l : List UInt8} (h : sg l = none) : sg (quote l) = none := sgF_quote_bad _ l (Nat.le_refl _) h
/-- A part that is one sign. -/
def sgn (c : Int) : PartV := ⟨1, c, [], false⟩
theorem partP_q (pre post : List Int) (c : Int) : partP (pre ++ (qc c ++ post)) pre.length = some (sgn c, pre.length + (qc c).length) := by
  have g0 : (pre ++ (qc c ++ post))[pre.length]? = (qc c ++ post)[0]? := by rw [List.getElem?_append_right (Nat.le_refl _), Nat.sub_self]
  have g1 : (pre ++ (qc c ++ post))[pre.length + 1]? = (qc c ++ post)[1]? := by rw [List.getElem?_append_right (by omega)]; congr 1; omega
  unfold partP oneP
  rw [g0, g1]
  unfold qc
  by_cases hs : spC c = true
  · rw [if_pos hs]
    simp [sgn]
  · rw [if_neg hs]
    unfold spC at hs
    simp only [Bool.or_eq_true, beq_iff_eq, not_or] at hs
    obtain ⟨⟨⟨a, b⟩, d⟩, e⟩ := hs
    simp [sgn, a, b, d, e]
theorem parse_q : ∀ (cs pre : List Int) (out : List PartV), out.length + cs.length ≤ 256 → parseR (pre ++ qcs cs) pre.length out = some (out ++ cs.map sgn)
  | [], pre, out, _ => by
    rw [parseR_end (by simp [qcs])]
    simp
  | c :: cs, pre, out, h => by
    have e : qcs (c :: cs) = qc c ++ qcs cs := by unfold qcs; rw [List.flatMap_cons]
    have hp := partP_q pre (qcs cs) c
    have hpos : 0 < (qc c).length := by unfold qc; split <;> simp
    simp only [List.length_cons] at h
    rw [e, parseR_go (by rw [List.length_append, List.length_append]; omega) hp (by omega)]
    have := parse_q cs (pre ++ qc c) (out ++ [sgn c]) (by simp; omega)
    rw [List.length_append, List.append_assoc] at this
    rw [this]
    simp
theorem pars_quote {s : ByteArray} {cs : List Int} (h : sg s.data.toList = some cs) (hl : cs.length ≤ 256) : pars (str (quote s.data.toList)) = some (cs.map sgn) := by
  unfold pars
  rw [show (str (quote s.data.toList)).data.toList = quote s.data.toList from rfl, sg_quote h]
  have := parse_q cs [] [] (by simpa using hl)
  simpa [parse] using this
theorem pars_quote_bad {s : ByteArray} (h : sg s.data.toList = none) : pars (str (quote s.data.toList)) = none := by
  unfold pars
  rw [show (str (quote s.data.toList)).data.toList = quote s.data.toList from rfl, sg_quote_bad h]
  rfl
theorem M_signs : ∀ (cs t : List Int), M (cs.map sgn) t = decide (t = cs)
  | [], t => by
    cases t <;> simp [M]
  | c :: cs, t => by
    have hm : many (sgn c) = false := rfl
    rw [List.map_cons, M, if_neg (by rw [hm]; simp)]
    cases t with
    | nil => rw [single]; simp
    | cons d t =>
      rw [single, M_signs cs t]
      have ht : takes (sgn c) d = (d == c) := rfl
      rw [ht, Bool.eq_iff_iff]
      simp
theorem data_ext {s t : ByteArray} (h : s.data.toList = t.data.toList) : s = t := by
  cases s; cases t
  simp only [ByteArray.mk.injEq]
  exact Array.toList_inj.1 h
theorem mtch_quote {s : ByteArray} {cs : List Int} (h : sg s.data.toList = some cs) (t : ByteArray) : mtch (cs.map sgn) t = decide (s = t) := by
  unfold mtch
  cases ht : sg t.data.toList with
  | none =>
    symm
    rw [decide_eq_false_iff_not]
    rintro rfl
    rw [h] at ht
    cases ht
  | some ds =>
    simp only
    rw [M_signs, Bool.eq_iff_iff, decide_eq_true_iff, decide_eq_true_iff]
    constructor
    · rintro rfl
      exact data_ext (sg_inj h ht)
    · rintro rfl
      rw [h] at ht
      injection ht with ht
      exact ht.symm
end Go.Proofs.YtlmdpmfahfgjkaaDoor
