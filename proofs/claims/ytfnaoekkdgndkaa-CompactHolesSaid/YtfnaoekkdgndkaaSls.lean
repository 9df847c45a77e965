/- Slices whose elements have some cells each, in memory; rows of the call's own. -/
import Derived.Test.YtfnaoekkdgndkaaCells
import Derived.OwnWalk
import Derived.Laws.AppendOwnNone
import Derived.Laws.OwnMore
namespace Go.Proofs.Ytfnaoekkdgndkaa
set_option maxRecDepth 100000
set_option linter.unusedVariables false
set_option linter.unusedSimpArgs false
open Go.RowKit
theorem add_plain (b off j : Nat) : (⟨b, off, none⟩ : Addr).add j = ⟨b, off + j, none⟩ := by unfold Addr.add; split <;> simp_all
/-- A slice of n elements of so many cells each; its cells are cs, and lie below block B. -/
def Sl (w : World) (B size : Nat) (v : Value) (n : Nat) (cs : List Value) : Prop :=
  cs.length = n * size ∧ ∃ a cap, v = .slice a n cap ∧ n ≤ cap ∧ ((n = 0 ∧ (a = none → cap = 0)) ∨ ∃ b off, a = some ⟨b, off, none⟩ ∧ b < B ∧ ∀ j u, cs[j]? = some u → w.cell? ⟨b, off + j, none⟩ = some u)
section
variable {w w' : World} {B B' size n : Nat} {v : Value} {cs : List Value}
theorem Sl.below (h : Sl w B size v n cs) (hb : Below B w w') : Sl w' B size v n cs := by
  obtain ⟨h1, a, cap, h2, h3, h4⟩ := h
  refine ⟨h1, a, cap, h2, h3, ?_⟩
  rcases h4 with h4 | ⟨b, off, h5, h6, h7⟩
  · exact .inl h4
  · exact .inr ⟨b, off, h5, h6, fun j u hj => (hb.cell (p := ⟨b, off + j, none⟩) h6).trans (h7 j u hj)⟩
theorem Sl.mono (h : Sl w B size v n cs) (hB : B ≤ B') : Sl w B' size v n cs := by
  obtain ⟨h1, a, cap, h2, h3, h4⟩ := h
  refine ⟨h1, a, cap, h2, h3, ?_⟩
  rcases h4 with h4 | ⟨b, off, h5, h6, h7⟩
  · exact .inl h4
  · exact .inr ⟨b, off, h5, Nat.lt_of_lt_of_le h6 hB, h7⟩
theorem Sl.nil : Sl w B size (.slice none 0 0) 0 [] := ⟨by simp, none, 0, rfl, Nat.le_refl _, .inl ⟨rfl, fun _ => rfl⟩⟩
theorem Sl.pos (h : Sl w B size v n cs) (hn : 0 < n) : ∃ b off cap, v = .slice (some ⟨b, off, none⟩) n cap ∧ n ≤ cap ∧ b < B ∧ ∀ j u, cs[j]? = some u → w.cell? ⟨b, off + j, none⟩ = some u := by
  obtain ⟨h1, a, cap, h2, h3, h4⟩ := h
  rcases h4 with ⟨h4, _⟩ | ⟨b, off, h5, h6, h7⟩
  · omega
  · subst h5; exact ⟨b, off, cap, h2, h3, h6, h7⟩
theorem Sl.form (h : Sl w B size v n cs) : ∃ a cap, v = .slice a n cap ∧ n ≤ cap := by
  obtain ⟨_, a, cap, h2, h3, _⟩ := h
  exact ⟨a, cap, h2, h3⟩
theorem Sl.drewN (h : Sl w B size v n cs) (k : Nat) : Sl (w.drewN k) B size v n cs := h.below (below_drewN (Below.refl _ _) k)
/-- A slice that has just been built. -/
theorem Sl.new (w : World) (size n : Nat) (cs : List Value) (t : TypeId) (h : cs.length = n * size) : Sl (w.alloc (.cells cs.toArray t)) (w.heap.size + 1) size (.slice (some ⟨w.heap.size, 0, none⟩) n n) n cs := by
  refine ⟨h, _, _, rfl, Nat.le_refl _, .inr ⟨w.heap.size, 0, rfl, Nat.lt_succ_self _, fun j u hj => ?_⟩⟩
  rw [World.cell?_alloc_at _ _ _ _ rfl]
  simpa using hj
end
/-- A row of the call's own: n elements of type e, of so many cells each. -/
def Row (base e size : Nat) (w : World) (v : Value) (n : Nat) (xs : List Value) : Prop := w.ownsRow base e size v n xs
section
variable {w w' : World} {base base' e size n : Nat} {v : Value} {xs : List Value}
theorem grown_of_below' (hb : Below w.heap.size w w') : w.grownBy w' none := ⟨hb.os, hb.tape, hb.output, hb.size, fun k hk _ => hb.block k hk⟩
theorem Row.below (h : Row base e size w v n xs) (hb : Below w.heap.size w w') : Row base e size w' v n xs :=
  World.ownsRow.kept h (grown_of_below' hb) (by cases h : v.ownBlock <;> simp)
theorem Row.mono (h : Row base e size w v n xs) (hb : base' ≤ base) : Row base' e size w v n xs := by
  refine ⟨h.1, ?_⟩
  rcases h.2 with h2 | ⟨g, cap, cur, hv, hg, hr⟩
  · exact .inl h2
  · exact .inr ⟨g, cap, cur, hv, Nat.le_trans hb hg, hr⟩
theorem Row.nil : Row base e size w (.slice none 0 0) 0 [] := World.ownsRow_nil _ _ _ _
theorem Row.len (h : Row base e size w v n xs) : xs.length = n * size := h.1
theorem Row.sl (h : Row base e size w v n xs) : Sl w w.heap.size size v n xs := by
  rcases h.2 with ⟨h1, h2⟩ | ⟨g, cap, cur, hv, hg, hh, hn, _⟩
  · subst h1 h2
    exact ⟨h.1, none, 0, rfl, Nat.le_refl _, .inl ⟨rfl, fun _ => rfl⟩⟩
  · subst hv
    refine ⟨h.1, _, cap, rfl, hn, .inr ⟨g, 0, rfl, ?_, fun j u hj => ?_⟩⟩
    · exact (World.ownsRow.lt h g rfl).2
    · have := World.ownsRow.cells h (g := g) rfl j u hj
      rw [add_plain] at this
      exact this
theorem Row.form (h : Row base e size w v n xs) : ∃ a cap, v = .slice a n cap ∧ n ≤ cap := h.sl.form
/-- An empty row that is not nil. -/
theorem Row.empty (w : World) (hb : base ≤ w.heap.size) : Row base e size (w.alloc (.cells #[] e)) (.slice (some ⟨w.heap.size, 0, none⟩) 0 0) 0 [] :=
  ⟨by simp, .inr ⟨w.heap.size, 0, #[], rfl, hb, heap_alloc_new _ _, Nat.le_refl _, Nat.zero_le _, by simp, by simp⟩⟩
theorem Row.lit (w : World) (cs : List Value) (hb : base ≤ w.heap.size) (hn : n ≤ 1000000) (hc : cs.length = n * size) : Row base e size (w.alloc (.cells cs.toArray e)) (.slice (some ⟨w.heap.size, 0, none⟩) n n) n cs :=
  ⟨hc, .inr ⟨w.heap.size, n, cs.toArray, rfl, hb, heap_alloc_new _ _, Nat.le_refl _, by unfold maxLen; omega, by simpa using hc, by rw [← hc]; simp⟩⟩
theorem Row.lt (h : Row base e size w v n xs) : ∀ k, v.ownBlock = some k → base ≤ k ∧ k < w.heap.size := World.ownsRow.lt h
/-- A store into another block than the row's. -/
theorem Row.other (h : Row base e size w v n xs) {c : Nat} (hc : c < base) (k : Nat) (x : Value) : Row base e size (w.setCell ⟨c, k, none⟩ x) v n xs := ownsRow_setCell_below (a := ⟨c, k, none⟩) h hc x
theorem append_rowG {t bytes : Nat} {z : Value} (ht : Try.prog.underlying t = some (.slice e)) (hinfo : (Try.prog.info? e).map (fun i => (i.zero, i.size, i.bytes)) = some (some z, size, bytes)) (hzs : z.cells.size = size) (hsz : 0 < size)
    {ops : Array Oper} {rest : List Oper} {o : Oper} {a : Act} {Q : Exit → Act → World → Prop} (hgd : o.guard = none) (s x : Operand)
    (ho : o.op = .call { callee := .builtin .append, args := #[s, x], argTypes := #[t, t] }) (hs : a.eval s = v) (hown : Row base e size w v n xs)
    {B : Nat} {u : Value} {m : Nat} {news : List Value} (hx : a.eval x = u) (hsl : Sl w B size u m news) (h1 : ∀ u ∈ news, u.oneCell' = true) (hn : n + m ≤ 1000000000000) (hby : (n + m) * bytes ≤ 140737488355328) (hbase : base ≤ w.heap.size)
    (h : ∀ v' w', Row base e size w' v' (n + m) (xs ++ news) → Below base w w' → w.grownBy w' v.ownBlock → wpList Try.prog ops Q rest (a.put o.dst v') w') : wpList Try.prog ops Q (o :: rest) a w := by
  obtain ⟨i0, hi, hz0, hz1, hz2⟩ := info_parts hinfo
  obtain ⟨hl, au, cap, rfl, hcap, hor⟩ := hsl
  have fin : ∀ v' w', w'.ownsRow base e size v' (n + m) (xs ++ news) → w.grownBy w' v.ownBlock → wpList Try.prog ops Q rest (a.put o.dst v') w' := fun v' w' k1 k2 =>
    h v' w' k1 ((Below.refl _ _).grown k2 hbase (fun k hk => (World.ownsRow.lt hown k hk).1)) k2
  rcases hor with ⟨h0, hc⟩ | ⟨b, off, rfl, hb, hcells⟩
  · subst h0
    have hnil : news = [] := List.eq_nil_of_length_eq_zero (by simpa using hl)
    subst hnil
    cases au with
    | none =>
      rw [hc rfl] at hx
      refine wpList_append_own_none hgd s x t ho base e i0 size ht hi v n xs hs hown hx ?_
      refine fin v w ?_ ⟨rfl, rfl, rfl, Nat.le_refl _, fun _ _ _ => rfl⟩
      simpa using (show w.ownsRow base e size v n xs from hown)
    | some ad =>
      refine wpList_append_own _ hgd s x t ho base e i0 z size bytes ht hi hz0 hz1 hz2 hzs hsz v n xs hs hown ad 0 cap [] hx (by simp) (fun j u hj => by simp at hj) (by simp) (by unfold maxLen; omega) hby hbase ?_
      intro v' w' k1 k2 _
      exact fin v' w' k1 k2
  · refine wpList_append_own _ hgd s x t ho base e i0 z size bytes ht hi hz0 hz1 hz2 hzs hsz v n xs hs hown ⟨b, off, none⟩ m cap news hx hl (fun j u hj => by rw [add_plain]; exact hcells j u hj) h1 (by unfold maxLen; omega) hby hbase ?_
    intro v' w' k1 k2 _
    exact fin v' w' k1 k2
theorem append_row {t bytes : Nat} {z : Value} (ht : Try.prog.underlying t = some (.slice e)) (hinfo : (Try.prog.info? e).map (fun i => (i.zero, i.size, i.bytes)) = some (some z, size, bytes)) (hzs : z.cells.size = size) (hsz : 0 < size)
    {ops : Array Oper} {rest : List Oper} {o : Oper} {a : Act} {Q : Exit → Act → World → Prop} (hgd : o.guard = none) (s x : Operand)
    (ho : o.op = .call { callee := .builtin .append, args := #[s, x], argTypes := #[t, t] }) (hs : a.eval s = v) (hown : Row base e size w v n xs)
    {B : Nat} {u : Value} {m : Nat} {news : List Value} (hx : a.eval x = u) (hsl : Sl w B size u m news) (h1 : ∀ u ∈ news, u.oneCell' = true) (hn : n + m ≤ 1000000000000) (hby : (n + m) * bytes ≤ 140737488355328) (hbase : base ≤ w.heap.size)
    (h : ∀ v' w', Row base e size w' v' (n + m) (xs ++ news) → Below base w w' → wpList Try.prog ops Q rest (a.put o.dst v') w') : wpList Try.prog ops Q (o :: rest) a w :=
  append_rowG ht hinfo hzs hsz hgd s x ho hs hown hx hsl h1 hn hby hbase (fun v' w' h1 h2 _ => h v' w' h1 h2)
/-- Rows of different types never share a block. -/
theorem Row.kept_ne {base2 e2 size2 m : Nat} {u : Value} {ys : List Value} (h : Row base e size w v n xs) (h2 : Row base2 e2 size2 w u m ys) (hg : w.grownBy w' u.ownBlock) (hne : e ≠ e2) : Row base e size w' v n xs := by
  refine World.ownsRow.kept h hg ?_
  rcases h.2 with ⟨hv, _⟩ | ⟨g, cap, cur, hv, _, hh, _⟩
  · left; rw [hv]; rfl
  · right
    intro he
    rcases h2.2 with ⟨hu, _⟩ | ⟨g2, cap2, cur2, hu, _, hh2, _⟩
    · rw [hu, hv] at he
      simp [Value.ownBlock] at he
    · rw [hu, hv] at he
      simp [Value.ownBlock] at he
      subst he
      rw [hh2] at hh
      simp only [Option.some.injEq, Obj.cells.injEq] at hh
      exact hne hh.2.1.symm
end
end Go.Proofs.Ytfnaoekkdgndkaa
