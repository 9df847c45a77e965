/- The pieces of all chains, in the order of their places: plain. -/
import Derived.Test.YtfnaoekkdgndkaaCpA
import Derived.Test.YtfnaoekkdgndkaaSrA
namespace Go.Proofs.Ytfnaoekkdgndkaa
set_option maxRecDepth 100000
set_option linter.unusedVariables false
set_option linter.unusedSimpArgs false
/-- A piece: where, how long, whose, which one. -/
structure Pc where
  a : Nat
  l : Nat
  o : Nat
  i : Nat
abbrev El := Pc
def atS (l : List Sp) (j : Nat) : Sp := l.getD j (0, 0)
def atP (l : List Pc) (k : Nat) : Pc := l.getD k ⟨0, 0, 0, 0⟩
theorem atS_mem {l : List Sp} {j : Nat} (h : j < l.length) : atS l j ∈ l := by
  unfold atS
  rw [List.getD_eq_getElem?_getD, List.getElem?_eq_getElem h]
  exact List.getElem_mem h
theorem atS_get {l : List Sp} {j : Nat} (h : j < l.length) : l[j]? = some (atS l j) := by
  unfold atS
  rw [List.getD_eq_getElem?_getD, List.getElem?_eq_getElem h]
  rfl
theorem atP_get {l : List Pc} {j : Nat} (h : j < l.length) : l[j]? = some (atP l j) := by
  unfold atP
  rw [List.getD_eq_getElem?_getD, List.getElem?_eq_getElem h]
  rfl
theorem atP_mem {l : List Pc} {j : Nat} (h : j < l.length) : atP l j ∈ l := List.mem_of_getElem? (atP_get h)
theorem mem_atP {l : List Pc} {p : Pc} (h : p ∈ l) : ∃ k, k < l.length ∧ p = atP l k := by
  obtain ⟨k, hk, e⟩ := List.getElem_of_mem h
  refine ⟨k, hk, ?_⟩
  have := atP_get hk
  rw [List.getElem?_eq_getElem hk, e] at this
  exact Option.some.inj this
def pcOf (o : Nat) (l : List Sp) (j : Nat) : Pc := ⟨(atS l j).1, (atS l j).2, o, j⟩
def rowN (o : Nat) (l : List Sp) : Nat → List Pc
  | 0 => []
  | j + 1 => rowN o l j ++ [pcOf o l j]
/-- The pieces of the first chains. -/
def allP (ls : Nat → List Sp) : Nat → List Pc
  | 0 => []
  | n + 1 => allP ls n ++ rowN n (ls n) (ls n).length
theorem rowN_len (o : Nat) (l : List Sp) (j : Nat) : (rowN o l j).length = j := by
  induction j with
  | zero => rfl
  | succ j ih => unfold rowN; simp [ih]
theorem mem_rowN {o : Nat} {l : List Sp} {j : Nat} {p : Pc} : p ∈ rowN o l j ↔ ∃ k, k < j ∧ p = pcOf o l k := by
  induction j with
  | zero => simp [rowN]
  | succ j ih =>
    unfold rowN
    rw [List.mem_append, List.mem_singleton, ih]
    constructor
    · rintro (⟨k, hk, rfl⟩ | rfl)
      · exact ⟨k, by omega, rfl⟩
      · exact ⟨j, by omega, rfl⟩
    · rintro ⟨k, hk, rfl⟩
      by_cases e : k = j
      · exact .inr (by rw [e])
      · exact .inl ⟨k, by omega, rfl⟩
theorem mem_allP {ls : Nat → List Sp} {n : Nat} {p : Pc} : p ∈ allP ls n ↔ ∃ o j, o < n ∧ j < (ls o).length ∧ p = pcOf o (ls o) j := by
  induction n with
  | zero => simp [allP]
  | succ n ih =>
    unfold allP
    rw [List.mem_append, ih, mem_rowN]
    constructor
    · rintro (⟨o, j, h1, h2, h3⟩ | ⟨k, hk, rfl⟩)
      · exact ⟨o, j, by omega, h2, h3⟩
      · exact ⟨n, k, by omega, hk, rfl⟩
    · rintro ⟨o, j, h1, h2, h3⟩
      by_cases e : o = n
      · subst e; exact .inr ⟨j, h2, h3⟩
      · exact .inl ⟨o, j, by omega, h2, h3⟩
theorem rowN_congr {o : Nat} {l l' : List Sp} {j : Nat} (h : ∀ k, k < j → atS l k = atS l' k) : rowN o l j = rowN o l' j := by
  induction j with
  | zero => rfl
  | succ j ih => unfold rowN pcOf; rw [ih (fun k hk => h k (by omega)), h j (by omega)]
def sumL (ls : Nat → List Sp) : Nat → Nat
  | 0 => 0
  | n + 1 => sumL ls n + (ls n).length
theorem allP_len (ls : Nat → List Sp) (n : Nat) : (allP ls n).length = sumL ls n := by
  induction n with
  | zero => rfl
  | succ n ih => unfold allP sumL; rw [List.length_append, ih, rowN_len]
/-- A piece put in ahead of the first one that isn't before it. -/
def ins (x : Pc) : List Pc → List Pc
  | [] => [x]
  | y :: t => if y.a < x.a then y :: ins x t else x :: y :: t
theorem ins_take {x : Pc} : ∀ {out : List Pc} {n : Nat}, n ≤ out.length → (∀ k, k < n → (atP out k).a < x.a) → (n = out.length ∨ ¬ (atP out n).a < x.a) → ins x out = out.take n ++ [x] ++ out.drop n
  | [], n, h, _, _ => by
    have : n = 0 := by simpa using h
    subst this
    rfl
  | y :: t, 0, _, _, h => by
    unfold ins
    rcases h with h | h
    · simp at h
    · rw [if_neg (by simpa [atP] using h)]
      rfl
  | y :: t, n + 1, hn, h1, h2 => by
    unfold ins
    have h0 := h1 0 (by omega)
    rw [if_pos (by simpa [atP] using h0)]
    have ih := ins_take (x := x) (out := t) (n := n) (by simpa using hn) (fun k hk => by have := h1 (k + 1) (by omega); simpa [atP] using this) (by
      rcases h2 with h2 | h2
      · exact .inl (by simpa using h2)
      · exact .inr (by simpa [atP] using h2))
    rw [ih]
    simp
theorem ins_perm (x : Pc) : ∀ l, (ins x l).Perm (x :: l)
  | [] => List.Perm.refl _
  | y :: t => by
    unfold ins
    split
    · exact ((ins_perm x t).cons y).trans (List.Perm.swap x y t)
    · exact List.Perm.refl _
theorem ins_len (x : Pc) (l : List Pc) : (ins x l).length = l.length + 1 := by rw [(ins_perm x l).length_eq]; rfl
abbrev SrtP (l : List Pc) : Prop := l.Pairwise fun x y => x.a ≤ y.a
theorem ins_srt {x : Pc} : ∀ {l : List Pc}, SrtP l → SrtP (ins x l)
  | [], _ => by unfold ins; simp [SrtP]
  | y :: t, h => by
    unfold ins
    have hy := List.pairwise_cons.1 h
    split
    · refine List.pairwise_cons.2 ⟨fun z hz => ?_, ins_srt hy.2⟩
      rcases List.mem_cons.1 ((ins_perm x t).mem_iff.1 hz) with rfl | hz
      · omega
      · exact hy.1 z hz
    · refine List.pairwise_cons.2 ⟨fun z hz => ?_, h⟩
      rcases List.mem_cons.1 hz with rfl | hz
      · omega
      · have := hy.1 z hz
        omega
def insL (l : List Pc) : List Pc := l.foldl (fun out x => ins x out) []
theorem insL_snoc (l : List Pc) (x : Pc) : insL (l ++ [x]) = ins x (insL l) := by unfold insL; simp
theorem insL_perm (l : List Pc) : (insL l).Perm l := by
  induction l using snoc_rec with
  | h0 => exact List.Perm.refl _
  | h1 l x ih => rw [insL_snoc]; exact (ins_perm x _).trans ((ih.cons x).trans (List.perm_append_singleton x l).symm)
theorem insL_srt (l : List Pc) : SrtP (insL l) := by
  induction l using snoc_rec with
  | h0 => exact List.Pairwise.nil
  | h1 l x ih => rw [insL_snoc]; exact ins_srt ih
/-- The pieces by their places. -/
def pcs (ls : Nat → List Sp) (n : Nat) : List Pc := insL (allP ls n)
theorem pcs_len (ls : Nat → List Sp) (n : Nat) : (pcs ls n).length = sumL ls n := by unfold pcs; rw [(insL_perm _).length_eq, allP_len]
/-- The bytes of pieces. -/
def bytesP (l : List Pc) : List Nat := l.flatMap fun p => bts (p.a, p.l)
def allB (ls : Nat → List Sp) : Nat → List Nat
  | 0 => []
  | n + 1 => allB ls n ++ bytes (ls n)
theorem bytesP_app (l m : List Pc) : bytesP (l ++ m) = bytesP l ++ bytesP m := by unfold bytesP; simp
theorem bytes_take (l : List Sp) (j : Nat) (h : j ≤ l.length) : bytesP (rowN 0 l j) = bytes (l.take j) := by
  induction j with
  | zero => rfl
  | succ j ih =>
    unfold rowN
    rw [bytesP_app, ih (by omega), List.take_add_one, atS_get (by omega), bytes_app]
    simp [bytesP, bytes, pcOf]
theorem bytesP_rowN (o : Nat) (l : List Sp) (j : Nat) : bytesP (rowN o l j) = bytesP (rowN 0 l j) := by
  induction j with
  | zero => rfl
  | succ j ih => unfold rowN; rw [bytesP_app, bytesP_app, ih]; rfl
theorem bytesP_all (ls : Nat → List Sp) (n : Nat) : bytesP (allP ls n) = allB ls n := by
  induction n with
  | zero => rfl
  | succ n ih => unfold allP allB; rw [bytesP_app, ih, bytesP_rowN, bytes_take _ _ (Nat.le_refl _), List.take_length]
/-- Chains that lie apart, of spans with bytes. -/
structure WF (ls : Nat → List Sp) (n : Nat) : Prop where
  pos : ∀ o, o < n → ∀ s ∈ ls o, s.2 ≠ 0
  nd : (allB ls n).Nodup
theorem WF.posP {ls : Nat → List Sp} {n : Nat} (h : WF ls n) : ∀ p ∈ allP ls n, p.l ≠ 0 := by
  intro p hp
  obtain ⟨o, j, h1, h2, rfl⟩ := mem_allP.1 hp
  exact h.pos o h1 _ (atS_mem h2)
theorem bytesP_perm {l m : List Pc} (h : l.Perm m) : (bytesP l).Perm (bytesP m) := h.flatMap_right _
theorem WF.ndP {ls : Nat → List Sp} {n : Nat} (h : WF ls n) : (bytesP (pcs ls n)).Nodup := by
  have := bytesP_perm (insL_perm (allP ls n))
  rw [bytesP_all] at this
  exact this.nodup_iff.2 h.nd
theorem mem_self {p : Pc} (h : p.l ≠ 0) : p.a ∈ bts (p.a, p.l) := mem_bts.2 ⟨Nat.le_refl _, by show p.a < p.a + p.l; omega⟩
theorem apart_of {l : List Pc} (h : (bytesP l).Nodup) : l.Pairwise fun p q => ∀ x ∈ bts (p.a, p.l), ∀ y ∈ bts (q.a, q.l), x ≠ y :=
  (List.pairwise_flatMap.1 h).2
theorem ends_of {l : List Pc} (hs : SrtP l) (h : (bytesP l).Nodup) (hp : ∀ p ∈ l, p.l ≠ 0) : l.Pairwise fun p q => p.a + p.l ≤ q.a := by
  refine (hs.and (apart_of h)).imp_of_mem ?_
  intro p q hpm hqm ⟨h1, h2⟩
  rcases Nat.lt_or_ge q.a (p.a + p.l) with h3 | h3
  · exact absurd rfl (h2 q.a (mem_bts.2 ⟨h1, h3⟩) q.a (mem_self (hp q hqm)))
  · exact h3
theorem WF.ends {ls : Nat → List Sp} {n : Nat} (h : WF ls n) : (pcs ls n).Pairwise fun p q => p.a + p.l ≤ q.a :=
  ends_of (insL_srt _) h.ndP fun p hp => h.posP p ((insL_perm _).mem_iff.1 hp)
theorem key_of {l : List Pc} (h : (bytesP l).Nodup) (hp : ∀ p ∈ l, p.l ≠ 0) {x y : Pc} (hx : x ∈ l) (hy : y ∈ l) (e : x.a = y.a) : x = y := by
  obtain ⟨i, hi, rfl⟩ := List.getElem_of_mem hx
  obtain ⟨j, hj, rfl⟩ := List.getElem_of_mem hy
  have hap := List.pairwise_iff_getElem.1 (apart_of h)
  have h1 := mem_self (hp _ hx)
  have h2 := mem_self (hp _ hy)
  rcases Nat.lt_trichotomy i j with hc | hc | hc
  · exact absurd e (hap i j hi hj hc _ h1 _ h2)
  · subst hc; rfl
  · exact absurd e.symm (hap j i hj hi hc _ h2 _ h1)
def leA (x y : Pc) : Prop := x.a ≤ y.a
theorem leA_ord : Ord leA := ⟨fun h1 h2 => Nat.le_trans h1 h2, fun x y => Nat.le_total _ _⟩
theorem cnt_list (p : Pc → Bool) (l : List Pc) : cnt p (atP l) l.length = l.countP p := by
  induction l using snoc_rec with
  | h0 => rfl
  | h1 l x ih =>
    rw [List.length_append, List.countP_append, ← ih]
    show cnt p (atP (l ++ [x])) (l.length + 1) = _
    rw [cnt.eq_2, cnt_congr p (f := atP (l ++ [x])) (g := atP l) l.length (fun k hk => by unfold atP; rw [List.getD_eq_getElem?_getD, List.getD_eq_getElem?_getD, List.getElem?_append_left hk])]
    have : atP (l ++ [x]) l.length = x := by unfold atP; simp [List.getD_eq_getElem?_getD]
    rw [this, List.countP_singleton]
theorem srt_at {l : List Pc} (h : SrtP l) : Srt leA (atP l) 0 l.length := by
  intro i j _ h1 h2
  have := List.pairwise_iff_getElem.1 h i j (by omega) h2 h1
  unfold leA atP
  rw [List.getD_eq_getElem?_getD, List.getD_eq_getElem?_getD, List.getElem?_eq_getElem h2, List.getElem?_eq_getElem (by omega : i < l.length)]
  exact this
/-- Sorted by places, the pieces are the page's. -/
theorem WF.sorted {ls : Nat → List Sp} {n : Nat} (h : WF ls n) {g : Nat → Pc} (hs : Sw 0 (sumL ls n) (atP (allP ls n)) g) (hg : Srt leA g 0 (sumL ls n)) : ∀ k, k < sumL ls n → g k = atP (pcs ls n) k := by
  intro k hk
  have hl := pcs_len ls n
  have hl2 := allP_len ls n
  have hc : ∀ p : Pc → Bool, cnt p g (sumL ls n) = cnt p (atP (pcs ls n)) (sumL ls n) := by
    intro p
    rw [hs.cnt p _ (Nat.le_refl _)]
    have h1 := cnt_list p (allP ls n)
    have h2 := cnt_list p (pcs ls n)
    rw [hl2] at h1
    rw [hl] at h2
    rw [h1, h2]
    exact ((insL_perm (allP ls n)).countP_eq p).symm
  have hsp : Srt leA (atP (pcs ls n)) 0 (sumL ls n) := by
    have := srt_at (insL_srt (allP ls n))
    rw [show (insL (allP ls n)).length = sumL ls n from hl] at this
    exact this
  have h1 := srt_same leA_ord hg hsp hc k hk
  have h2 := srt_same leA_ord hsp hg (fun p => (hc p).symm) k hk
  have hgm : g k ∈ allP ls n := hs.all (· ∈ allP ls n) (fun k _ hk => atP_mem (by omega)) k (Nat.zero_le _) hk
  have hpm : atP (pcs ls n) k ∈ allP ls n := (insL_perm _).mem_iff.1 (atP_mem (show k < (pcs ls n).length by rw [hl]; exact hk))
  have hnd : (bytesP (allP ls n)).Nodup := by rw [bytesP_all]; exact h.nd
  exact key_of hnd h.posP hgm hpm (Nat.le_antisymm h1 h2)
end Go.Proofs.Ytfnaoekkdgndkaa
