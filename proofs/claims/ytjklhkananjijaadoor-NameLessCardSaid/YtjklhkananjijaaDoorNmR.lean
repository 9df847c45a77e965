/- A text's parts, as lists; the order of names. Plain. -/
import Derived.Test.YtjklhkananjijaaDoorNmK
set_option linter.unusedVariables false
set_option linter.unusedSimpArgs false
namespace Go.Proofs.YtjklhkananjijaaDoor
open Go.RowKit
/-- The parts between the slashes, as lists. -/
def sp : List UInt8 → List (List UInt8)
  | [] => [[]]
  | c :: r => if c = 47 then [] :: sp r else match sp r with | [] => [[c]] | p :: q => (c :: p) :: q
theorem sp_ne (l : List UInt8) : sp l ≠ [] := by
  cases l with
  | nil => simp [sp]
  | cons c r => unfold sp; split; simp; split <;> simp
theorem sp_cons (c : UInt8) (r : List UInt8) : sp (c :: r) = if c = 47 then [] :: sp r else match sp r with | [] => [[c]] | p :: q => (c :: p) :: q := rfl
theorem sp_append : ∀ (l r : List UInt8), sp (l ++ 47 :: r) = sp l ++ sp r
  | [], r => by simp [sp]
  | c :: l, r => by
    have ih := sp_append l r
    show sp (c :: (l ++ 47 :: r)) = sp (c :: l) ++ sp r
    rw [sp_cons c (l ++ 47 :: r), sp_cons c l, ih]
    by_cases h : c = 47
    · rw [if_pos h, if_pos h]; rfl
    · rw [if_neg h, if_neg h]
      have hn := sp_ne l
      revert hn
      generalize sp l = x
      intro hn
      cases x with
      | nil => exact absurd rfl hn
      | cons p q => rfl
theorem sp_none : ∀ (l : List UInt8), (∀ x ∈ l, x ≠ 47) → sp l = [l]
  | [], _ => rfl
  | c :: l, h => by
    unfold sp
    rw [if_neg (h c (by simp)), sp_none l (fun x hx => h x (by simp [hx]))]
/-- Parts put together again. -/
def unj : List (List UInt8) → List UInt8
  | [] => []
  | [p] => p
  | p :: q :: r => p ++ 47 :: unj (q :: r)
theorem unj_cons (p : List UInt8) (x : List (List UInt8)) (h : x ≠ []) : unj (p :: x) = p ++ 47 :: unj x := by
  cases x with
  | nil => exact absurd rfl h
  | cons a b => rfl
theorem unj_head (c : UInt8) (p : List UInt8) (q : List (List UInt8)) : unj ((c :: p) :: q) = c :: unj (p :: q) := by
  cases q with
  | nil => rfl
  | cons a b => rfl
theorem unj_sp : ∀ l : List UInt8, unj (sp l) = l
  | [] => rfl
  | c :: l => by
    have ih := unj_sp l
    have hn := sp_ne l
    unfold sp
    by_cases h : c = 47
    · rw [if_pos h, unj_cons _ _ hn, ih, h]; rfl
    · rw [if_neg h]
      revert ih hn
      generalize sp l = x
      intro ih hn
      cases x with
      | nil => exact absurd rfl hn
      | cons p q => show unj ((c :: p) :: q) = _; rw [unj_head, ih]
theorem unj_snoc : ∀ (x : List (List UInt8)) (p : List UInt8), x ≠ [] → unj (x ++ [p]) = unj x ++ 47 :: p
  | [], _, h => absurd rfl h
  | [a], p, _ => rfl
  | a :: b :: r, p, _ => by
    have ih := unj_snoc (b :: r) p (by simp)
    show unj (a :: ((b :: r) ++ [p])) = _
    rw [unj_cons _ _ (by simp), ih, unj_cons a (b :: r) (by simp)]
    simp
theorem first_sl : ∀ l : List UInt8, (∀ x ∈ l, x ≠ 47) ∨ ∃ p r, l = p ++ 47 :: r ∧ ∀ x ∈ p, x ≠ 47
  | [] => .inl (by simp)
  | c :: l => by
    by_cases h : c = 47
    · exact .inr ⟨[], l, by rw [h]; rfl, by simp⟩
    · rcases first_sl l with h1 | ⟨p, r, h1, h2⟩
      · left; intro x hx; rcases List.mem_cons.1 hx with rfl | hx
        · exact h
        · exact h1 x hx
      · right; refine ⟨c :: p, r, by rw [h1]; rfl, ?_⟩
        intro x hx; rcases List.mem_cons.1 hx with rfl | hx
        · exact h
        · exact h2 x hx
theorem last_sl : ∀ l : List UInt8, (∀ x ∈ l, x ≠ 47) ∨ ∃ p r, l = p ++ 47 :: r ∧ ∀ x ∈ r, x ≠ 47
  | [] => .inl (by simp)
  | c :: l => by
    rcases last_sl l with h1 | ⟨p, r, h1, h2⟩
    · by_cases h : c = 47
      · exact .inr ⟨[], l, by rw [h]; rfl, h1⟩
      · left; intro x hx; rcases List.mem_cons.1 hx with rfl | hx
        · exact h
        · exact h1 x hx
    · exact .inr ⟨c :: p, r, by rw [h1]; rfl, h2⟩
theorem pieces_sp : ∀ (n : Nat) (s : ByteArray), s.size ≤ n → (pieces s).map (fun p => p.data.toList) = sp s.data.toList := by
  intro n
  induction n with
  | zero =>
    intro s h
    have e : s.data.toList = [] := List.eq_nil_of_length_eq_zero (by rw [Array.length_toList]; exact Nat.le_zero.1 h)
    rw [pieces_miss s (fun j => by rw [← Array.getElem?_toList, e]; simp), e]
    simp [e, sp]
  | succ n ih =>
    intro s h
    rcases first_sl s.data.toList with h1 | ⟨p, r, h1, h2⟩
    · rw [pieces_miss s (fun j => by rw [← Array.getElem?_toList]; intro q; exact h1 47 (List.mem_of_getElem? q) rfl), sp_none _ h1]
      rfl
    · have hlen : s.data.toList.length = p.length + 1 + r.length := by rw [h1]; simp; omega
      rw [Array.length_toList] at hlen
      have hsz : s.size = p.length + 1 + r.length := hlen
      rw [pieces_hit s p.length (by rw [← Array.getElem?_toList, h1]; simp) (fun j hj => by
        rw [← Array.getElem?_toList, h1, List.getElem?_append_left hj]
        intro q; exact h2 47 (List.mem_of_getElem? q) rfl)]
      rw [List.map_cons, ih (s.extract (p.length + 1) s.size) (by rw [ByteArray.size_extract]; omega)]
      rw [Lib.extract_data, Lib.extract_data, h1, sp_append, sp_none p h2]
      have e1 : ((p ++ 47 :: r).drop 0).take (p.length - 0) = p := by simp
      have e2 : ((p ++ 47 :: r).drop (p.length + 1)).take (s.size - (p.length + 1)) = r := by
        rw [show (p ++ 47 :: r).drop (p.length + 1) = r by
          rw [List.drop_append, List.drop_eq_nil_of_le (by omega), show p.length + 1 - p.length = 1 by omega]; rfl]
        exact List.take_of_length_le (by omega)
      rw [e1, e2]
      rfl
theorem pieces_at (s : ByteArray) : (pieces s).map (fun p => p.data.toList) = sp s.data.toList := pieces_sp s.size s (Nat.le_refl _)
theorem ba_ext {a b : ByteArray} (h : a.data.toList = b.data.toList) : a = b := by
  apply ByteArray.ext
  exact Array.toList_inj.1 h
theorem pieces_inj {a b : ByteArray} (h : pieces a = pieces b) : a = b := by
  have h1 := pieces_at a
  rw [h, pieces_at b] at h1
  apply ba_ext
  rw [← unj_sp a.data.toList, ← unj_sp b.data.toList, h1]
/-! The order. -/
theorem bl_asymm : ∀ (x y : List UInt8), Op.bytesLess x y = true → Op.bytesLess y x = true → False
  | [], [], h, _ => by simp [Op.bytesLess] at h
  | [], _ :: _, _, h => by simp [Op.bytesLess] at h
  | _ :: _, [], h, _ => by simp [Op.bytesLess] at h
  | a :: x, b :: y, h1, h2 => by
    simp only [Op.bytesLess, Bool.or_eq_true, Bool.and_eq_true, decide_eq_true_eq, beq_iff_eq, UInt8.lt_iff_toNat_lt] at h1 h2
    rcases h1 with h1 | ⟨e, h1⟩
    · rcases h2 with h2 | ⟨e, h2⟩
      · omega
      · subst e; omega
    · subst e
      rcases h2 with h2 | ⟨_, h2⟩
      · omega
      · exact bl_asymm x y h1 h2
theorem bl_total : ∀ (x y : List UInt8), x ≠ y → Op.bytesLess x y = true ∨ Op.bytesLess y x = true
  | [], [], h => absurd rfl h
  | [], _ :: _, _ => by simp [Op.bytesLess]
  | _ :: _, [], _ => by simp [Op.bytesLess]
  | a :: x, b :: y, h => by
    simp only [Op.bytesLess, Bool.or_eq_true, Bool.and_eq_true, decide_eq_true_eq, beq_iff_eq, UInt8.lt_iff_toNat_lt]
    by_cases e : a = b
    · subst e
      rcases bl_total x y (fun q => h (by rw [q])) with h1 | h1
      · left; right; exact ⟨rfl, h1⟩
      · right; right; exact ⟨rfl, h1⟩
    · have : a.toNat ≠ b.toNat := fun q => e (UInt8.toNat_inj.1 q)
      by_cases c : a.toNat < b.toNat
      · left; left; exact c
      · right; left; omega
theorem bl_trans : ∀ (x y z : List UInt8), Op.bytesLess x y = true → Op.bytesLess y z = true → Op.bytesLess x z = true
  | [], [], _, h, _ => by simp [Op.bytesLess] at h
  | _ :: _, [], _, h, _ => by simp [Op.bytesLess] at h
  | _, _ :: _, [], _, h => by simp [Op.bytesLess] at h
  | [], _ :: _, _ :: _, _, _ => by simp [Op.bytesLess]
  | a :: x, b :: y, c :: z, h1, h2 => by
    simp only [Op.bytesLess, Bool.or_eq_true, Bool.and_eq_true, decide_eq_true_eq, beq_iff_eq, UInt8.lt_iff_toNat_lt] at h1 h2 ⊢
    rcases h1 with h1 | ⟨e, h1⟩
    · rcases h2 with h2 | ⟨e, h2⟩
      · left; omega
      · subst e; left; exact h1
    · subst e
      rcases h2 with h2 | ⟨e, h2⟩
      · left; exact h2
      · subst e; right; exact ⟨rfl, bl_trans x y z h1 h2⟩
theorem ba_beq {a b : ByteArray} : (a.toList == b.toList) = true ↔ a = b := by
  rw [beq_iff_eq, ByteArray.toList_eq, ByteArray.toList_eq]
  exact ⟨ba_ext, fun h => by rw [h]⟩
theorem lessL_cons (a b : ByteArray) (x y : List ByteArray) : lessL (a :: x) (b :: y) = true ↔ (a = b ∧ lessL x y = true) ∨ (a ≠ b ∧ Op.bytesLess a.toList b.toList = true) := by
  rw [lessL]
  by_cases h : a = b
  · rw [if_pos (ba_beq.2 h)]; simp [h]
  · rw [if_neg (fun q => h (ba_beq.1 q))]; simp [h]
theorem lessL_asymm : ∀ (x y : List ByteArray), lessL x y = true → lessL y x = true → False
  | [], [], h, _ => by simp [lessL] at h
  | [], _ :: _, _, h => by simp [lessL] at h
  | _ :: _, [], h, _ => by simp [lessL] at h
  | a :: x, b :: y, h1, h2 => by
    rw [lessL_cons] at h1 h2
    rcases h1 with ⟨e, h1⟩ | ⟨e, h1⟩
    · rcases h2 with ⟨_, h2⟩ | ⟨e2, h2⟩
      · exact lessL_asymm x y h1 h2
      · exact e2 e.symm
    · rcases h2 with ⟨e2, h2⟩ | ⟨_, h2⟩
      · exact e e2.symm
      · exact bl_asymm _ _ h1 h2
theorem lessL_total : ∀ (x y : List ByteArray), x ≠ y → lessL x y = true ∨ lessL y x = true
  | [], [], h => absurd rfl h
  | [], _ :: _, _ => by simp [lessL]
  | _ :: _, [], _ => by simp [lessL]
  | a :: x, b :: y, h => by
    rw [lessL_cons, lessL_cons]
    by_cases e : a = b
    · subst e
      rcases lessL_total x y (fun q => h (by rw [q])) with h1 | h1
      · left; left; exact ⟨rfl, h1⟩
      · right; left; exact ⟨rfl, h1⟩
    · rcases bl_total a.toList b.toList (fun q => e (ba_beq.1 (by rw [q]; simp))) with h1 | h1
      · left; right; exact ⟨e, h1⟩
      · right; right; exact ⟨fun q => e q.symm, h1⟩
theorem lessL_trans : ∀ (x y z : List ByteArray), lessL x y = true → lessL y z = true → lessL x z = true
  | [], [], _, h, _ => by simp [lessL] at h
  | _ :: _, [], _, h, _ => by simp [lessL] at h
  | _, _ :: _, [], _, h => by simp [lessL] at h
  | [], _ :: _, _ :: _, _, _ => by simp [lessL]
  | a :: x, b :: y, c :: z, h1, h2 => by
    rw [lessL_cons] at h1 h2 ⊢
    rcases h1 with ⟨e, h1⟩ | ⟨e, h1⟩
    · subst e
      rcases h2 with ⟨e, h2⟩ | ⟨e, h2⟩
      · left; exact ⟨e, lessL_trans x y z h1 h2⟩
      · right; exact ⟨e, h2⟩
    · rcases h2 with ⟨e2, h2⟩ | ⟨e2, h2⟩
      · subst e2; right; exact ⟨e, h1⟩
      · right
        have h3 := bl_trans _ _ _ h1 h2
        refine ⟨fun q => ?_, h3⟩
        subst q
        exact bl_asymm _ _ h3 h3
/-- What the law asks of the order. -/
theorem less_irr (a : ByteArray) : lessL (pieces a) (pieces a) = false := by
  cases h : lessL (pieces a) (pieces a) with
  | false => rfl
  | true => exact (lessL_asymm _ _ h h).elim
end Go.Proofs.YtjklhkananjijaaDoor
