/- Rows of elements of some cells each; spans in memory; chains. -/
import Derived.Test.YtfnaoekkdgndkaaCpB
import Derived.Test.YtfnaoekkdgndkaaSlO
import Derived.Test.YtfnaoekkdgndkaaMonoT
import Derived.Lib.Hide
import Derived.OwnWalk
import Derived.IntWalk
import Derived.BigQuiet
import Derived.BigRegion
import Derived.Laws.Rows
import Derived.Laws.OwnMore
import Derived.Deep.DeepCutAuto
import Derived.Deep.RegionLawGrows
namespace Go.Proofs.Ytfnaoekkdgndkaa
set_option maxRecDepth 100000
set_option linter.unusedVariables false
set_option linter.unusedSimpArgs false
open Go.RowKit
/-- The cells of a list's elements. -/
def lc {α : Type} (c : α → List Value) (l : List α) : List Value := l.flatMap c
section
variable {α : Type} {c : α → List Value} {s : Nat}
theorem lc_nil : lc c [] = [] := rfl
theorem lc_app (l m : List α) : lc c (l ++ m) = lc c l ++ lc c m := by unfold lc; simp
theorem lc_one (a : α) : lc c [a] = c a := by unfold lc; simp
theorem lc_cons (a : α) (l : List α) : lc c (a :: l) = c a ++ lc c l := by unfold lc; simp
theorem lc_len (hc : ∀ a, (c a).length = s) : ∀ l : List α, (lc c l).length = l.length * s
  | [] => by simp [lc]
  | a :: l => by rw [lc_cons, List.length_append, hc, lc_len hc l, List.length_cons, Nat.add_mul]; omega
theorem lc_get (hc : ∀ a, (c a).length = s) : ∀ {l : List α} {j : Nat} {a : α}, l[j]? = some a → ∀ {i : Nat}, i < s → (lc c l)[j * s + i]? = (c a)[i]?
  | [], j, a, h, _, _ => by simp at h
  | b :: l, 0, a, h, i, hi => by
    have e : b = a := by simpa using h
    subst e
    rw [lc_cons, List.getElem?_append_left (by rw [hc]; omega)]
    simp
  | b :: l, j + 1, a, h, i, hi => by
    rw [lc_cons, List.getElem?_append_right (by rw [hc, Nat.add_mul]; omega), hc, show (j + 1) * s + i - s = j * s + i by rw [Nat.add_mul]; omega]
    exact lc_get hc (by simpa using h) hi
theorem lc_set (hc : ∀ a, (c a).length = s) : ∀ {l : List α} {j : Nat} {a a' : α} {i : Nat} {v : Value}, l[j]? = some a → i < s → (c a).set i v = c a' → (lc c l).set (j * s + i) v = lc c (l.set j a')
  | [], j, a, _, _, _, h, _, _ => by simp at h
  | b :: l, 0, a, a', i, v, h, hi, hv => by
    have e : b = a := by simpa using h
    subst e
    rw [lc_cons, List.set_append_left _ _ (by rw [hc]; omega), List.set_cons_zero, lc_cons, ← hv]
    simp
  | b :: l, j + 1, a, a', i, v, h, hi, hv => by
    rw [lc_cons, List.set_append_right _ _ (by rw [hc, Nat.add_mul]; omega), hc, show (j + 1) * s + i - s = j * s + i by rw [Nat.add_mul]; omega, lc_set hc (by simpa using h) hi hv]
    simp [lc_cons]
theorem lc_take (hc : ∀ a, (c a).length = s) : ∀ (l : List α) (k : Nat), (lc c l).take (k * s) = lc c (l.take k)
  | [], k => by simp [lc]
  | a :: l, 0 => by simp [lc]
  | a :: l, k + 1 => by
    rw [lc_cons, List.take_append, hc, List.take_of_length_le (by rw [hc, Nat.add_mul]; omega), show (k + 1) * s - s = k * s by rw [Nat.add_mul]; omega, lc_take hc l k, List.take_succ_cons, lc_cons]
theorem lc_drop (hc : ∀ a, (c a).length = s) : ∀ (l : List α) (k : Nat), (lc c l).drop (k * s) = lc c (l.drop k)
  | [], k => by simp [lc]
  | a :: l, 0 => by simp [lc]
  | a :: l, k + 1 => by
    rw [lc_cons, List.drop_append, hc, List.drop_of_length_le (by rw [hc, Nat.add_mul]; omega), List.nil_append, show (k + 1) * s - s = k * s by rw [Nat.add_mul]; omega, lc_drop hc l k, List.drop_succ_cons]
theorem lc_mem {l : List α} {u : Value} (h : u ∈ lc c l) : ∃ a ∈ l, u ∈ c a := by
  unfold lc at h
  rw [List.mem_flatMap] at h
  exact h
end
/-- A span's cells. -/
def spC (x : Sp) : List Value := [.int .i64 (x.1 : Nat), .int .i64 (x.2 : Nat)]
theorem spC_len (x : Sp) : (spC x).length = 2 := rfl
/-- A piece's cells. -/
def pcC (p : Pc) : List Value := [.int .i64 (p.a : Nat), .int .i64 (p.l : Nat), .int .i64 (p.o : Nat), .int .i64 (p.i : Nat)]
theorem pcC_len (p : Pc) : (pcC p).length = 4 := rfl
theorem sp_one (l : List Sp) : ∀ u ∈ lc spC l, u.oneCell' = true := by
  intro u hu
  obtain ⟨a, _, h⟩ := lc_mem hu
  simp [spC] at h
  rcases h with rfl | rfl <;> rfl
theorem pc_one (l : List Pc) : ∀ u ∈ lc pcC l, u.oneCell' = true := by
  intro u hu
  obtain ⟨a, _, h⟩ := lc_mem hu
  simp [pcC] at h
  rcases h with rfl | rfl | rfl | rfl <;> rfl
theorem sl_cells {w : World} {B size n cap : Nat} {a : Option Addr} {cs : List Value} (h : Sl w B size (.slice a n cap) n cs) (hn : 0 < n) : ∃ b off, a = some ⟨b, off, none⟩ ∧ ∀ j u, cs[j]? = some u → w.cell? ⟨b, off + j, none⟩ = some u := by
  obtain ⟨b, off, cap', he, _, _, hk⟩ := h.pos hn
  injection he with he1 he2 he3
  exact ⟨b, off, he1, hk⟩
theorem sl_same {w : World} {B size n cap b off : Nat} {cs : List Value} (h : Sl w B size (.slice (some ⟨b, off, none⟩) n cap) n cs) (hn : 0 < n) : ∀ j u, cs[j]? = some u → w.cell? ⟨b, off + j, none⟩ = some u := by
  obtain ⟨b', off', he, hk⟩ := sl_cells h hn
  injection he with he
  injection he with h1 h2
  subst h1 h2
  exact hk
theorem row_form {base e size : Nat} {w : World} {v : Value} {n : Nat} {xs : List Value} (h : Row base e size w v n xs) : (v = .slice none 0 0 ∧ n = 0 ∧ xs = []) ∨ ∃ g cap, v = .slice (some ⟨g, 0, none⟩) n cap ∧ n ≤ cap ∧ base ≤ g ∧ g < w.heap.size := by
  have hl := h.1
  rcases h.2 with h0 | ⟨g, cap, cur, hv, hb, hg, hn, _⟩
  · obtain ⟨h1, rfl⟩ := h0
    exact .inl ⟨h1, rfl, List.eq_nil_of_length_eq_zero (by simpa using hl)⟩
  · exact .inr ⟨g, cap, hv, hn, hb, (Array.getElem?_eq_some_iff.1 hg).1⟩
/-- A span of a slice lies there. -/
theorem sp_cells {w : World} {B cap b off n : Nat} {l : List Sp} (h : Sl w B 2 (.slice (some ⟨b, off, none⟩) n cap) n (lc spC l)) {j : Nat} {x : Sp} (hn : n = l.length) (hj : l[j]? = some x) :
    w.cell? ⟨b, off + j * 2, none⟩ = some (.int .i64 (x.1 : Nat)) ∧ w.cell? ⟨b, off + j * 2 + 1, none⟩ = some (.int .i64 (x.2 : Nat)) := by
  have hl : j < l.length := (List.getElem?_eq_some_iff.1 hj).1
  have hc := sl_same h (by omega)
  exact ⟨hc (j * 2 + 0) _ (lc_get spC_len hj (by omega)), hc (j * 2 + 1) _ (lc_get spC_len hj (by omega))⟩
theorem pc_cells {w : World} {B cap b off n : Nat} {l : List Pc} (h : Sl w B 4 (.slice (some ⟨b, off, none⟩) n cap) n (lc pcC l)) {j : Nat} {x : Pc} (hn : n = l.length) (hj : l[j]? = some x) :
    w.cell? ⟨b, off + j * 4, none⟩ = some (.int .i64 (x.a : Nat)) ∧ w.cell? ⟨b, off + j * 4 + 1, none⟩ = some (.int .i64 (x.l : Nat)) ∧ w.cell? ⟨b, off + j * 4 + 2, none⟩ = some (.int .i64 (x.o : Nat)) ∧ w.cell? ⟨b, off + j * 4 + 3, none⟩ = some (.int .i64 (x.i : Nat)) := by
  have hl : j < l.length := (List.getElem?_eq_some_iff.1 hj).1
  have hc := sl_same h (by omega)
  exact ⟨hc (j * 4 + 0) _ (lc_get pcC_len hj (by omega)), hc (j * 4 + 1) _ (lc_get pcC_len hj (by omega)), hc (j * 4 + 2) _ (lc_get pcC_len hj (by omega)), hc (j * 4 + 3) _ (lc_get pcC_len hj (by omega))⟩
theorem sp_row {w : World} {base e cap g n : Nat} {l : List Sp} (h : Row base e 2 w (.slice (some ⟨g, 0, none⟩) n cap) n (lc spC l)) {j : Nat} {x : Sp} (hn : n = l.length) (hj : l[j]? = some x) :
    w.cell? ⟨g, j * 2, none⟩ = some (.int .i64 (x.1 : Nat)) ∧ w.cell? ⟨g, j * 2 + 1, none⟩ = some (.int .i64 (x.2 : Nat)) := by
  have := sp_cells h.sl hn hj
  rwa [Nat.zero_add] at this
theorem pc_row {w : World} {base e cap g n : Nat} {l : List Pc} (h : Row base e 4 w (.slice (some ⟨g, 0, none⟩) n cap) n (lc pcC l)) {j : Nat} {x : Pc} (hn : n = l.length) (hj : l[j]? = some x) :
    w.cell? ⟨g, j * 4, none⟩ = some (.int .i64 (x.a : Nat)) ∧ w.cell? ⟨g, j * 4 + 1, none⟩ = some (.int .i64 (x.l : Nat)) ∧ w.cell? ⟨g, j * 4 + 2, none⟩ = some (.int .i64 (x.o : Nat)) ∧ w.cell? ⟨g, j * 4 + 3, none⟩ = some (.int .i64 (x.i : Nat)) := by
  have := pc_cells h.sl hn hj
  rwa [Nat.zero_add] at this
theorem info_sp : (Try.prog.info? 57).map (fun i => (i.zero, i.size, i.bytes)) = some (some (.agg #[.int .i64 0, .int .i64 0]), 2, 16) := by kernel_rfl
theorem info_rs : (Try.prog.info? 34).map (fun i => (i.zero, i.size, i.bytes)) = some (some (.agg #[.int .i64 0, .int .i64 0]), 2, 16) := by kernel_rfl
theorem info_pl : (Try.prog.info? 66).map (fun i => (i.zero, i.size, i.bytes)) = some (some (.agg #[.int .i64 0, .int .i64 0, .int .i64 0, .int .i64 0]), 4, 32) := by kernel_rfl
theorem info_pp : (Try.prog.info? 36).map (fun i => (i.zero, i.size, i.bytes)) = some (some (.agg #[.int .i64 0, .int .i64 0, .int .i64 0, .int .i64 0]), 4, 32) := by kernel_rfl
theorem info_mv : (Try.prog.info? 38).map (fun i => (i.zero, i.size, i.bytes)) = some (some (.agg #[.int .i64 0, .int .i64 0, .int .i64 0]), 3, 24) := by kernel_rfl
theorem info_in : (Try.prog.info? 3).map (fun i => (i.zero, i.size, i.bytes)) = some (some (.int .i64 0), 1, 8) := by kernel_rfl
theorem Own.drewN {w : World} {b : Nat} {cs : List Value} (h : Own w b cs) (k : Nat) : Own (w.drewN k) b cs := h
theorem Own.grown {w w' : World} {b : Nat} {cs : List Value} {row : Option Nat} (h : Own w b cs) (hg : w.grownBy w' row) (hr : some b ≠ row) (hb : b < w.heap.size) : Own w' b cs :=
  ⟨fun j v hj => (World.cell?_of_block (w := w) (a := ⟨b, j, none⟩) (hg.block b hb hr)).trans (h.1 j v hj), fun j => (World.frozen?_of_block (w := w) (a := ⟨b, j, none⟩) (hg.block b hb hr)).trans (h.2 j)⟩
theorem step_append_row {e size t bytes base n : Nat} {v : Value} {xs : List Value} {z : Value} (ht : Try.prog.underlying t = some (.slice e)) (hinfo : (Try.prog.info? e).map (fun i => (i.zero, i.size, i.bytes)) = some (some z, size, bytes)) (hzs : z.cells.size = size) (hsz : 0 < size)
    {ops : Array Oper} {o : Oper} {a : Act} {w : World} {K : Act → World → Prop} {Q : Exit → Act → World → Prop} {E : Prop} (hgd : o.guard = none) (s x : Operand)
    (ho : o.op = .call { callee := .builtin .append, args := #[s, x], argTypes := #[t, t] }) (hs : a.eval s = v) (hown : Row base e size w v n xs)
    {B : Nat} {u : Value} {m : Nat} {news : List Value} (hx : a.eval x = u) (hsl : Sl w B size u m news) (h1 : ∀ u ∈ news, u.oneCell' = true) (hn : n + m ≤ 1000000000000) (hby : (n + m) * bytes ≤ 140737488355328) (hbase : base ≤ w.heap.size)
    (h : ∀ v' w', Row base e size w' v' (n + m) (xs ++ news) → Below base w w' → w.grownBy w' v.ownBlock → K (a.put o.dst v') w') : if Region.wanted o (yielded ops a.tmps) = true then Oper.wp Try.prog o a w K Q else E := by
  have hw : Region.wanted o (yielded ops a.tmps) = true := by simp [Region.wanted, hgd]
  rw [if_pos hw]
  obtain ⟨i0, hi, hz0, hz1, hz2⟩ := info_parts hinfo
  obtain ⟨hl, au, cap, rfl, hcap, hor⟩ := hsl
  have fin : ∀ v' w', w'.ownsRow base e size v' (n + m) (xs ++ news) → w.grownBy w' v.ownBlock → K (a.put o.dst v') w' := fun v' w' k1 k2 =>
    h v' w' k1 ((Below.refl _ _).grown k2 hbase (fun k hk => (World.ownsRow.lt hown k hk).1)) k2
  rcases hor with ⟨h0, hc⟩ | ⟨b, off, rfl, hb, hcells⟩
  · subst h0
    have hnil : news = [] := List.eq_nil_of_length_eq_zero (by simpa using hl)
    subst hnil
    cases au with
    | none =>
      rw [hc rfl] at hx
      have hrun := run_append_owned_none (P := Try.prog) (w := w) base t o.type e i0 size ht hi v n xs hown
      unfold Oper.wp
      simp [execOp, ho, resolve, invoke, builtin, hs, hx, hrun, Result.andThen]
      refine fin v w ?_ ⟨rfl, rfl, rfl, Nat.le_refl _, fun _ _ _ => rfl⟩
      simpa using (show w.ownsRow base e size v n xs from hown)
    | some ad =>
      refine wp_append_own w s x t ho base e i0 z size bytes ht hi hz0 hz1 hz2 hzs hsz v n xs hs hown ad 0 cap [] hx (by simp) (fun j u hj => by simp at hj) (by simp) (by unfold maxLen; omega) hby hbase ?_
      intro v' w' k1 k2 _
      exact fin v' w' k1 k2
  · refine wp_append_own w s x t ho base e i0 z size bytes ht hi hz0 hz1 hz2 hzs hsz v n xs hs hown ⟨b, off, none⟩ m cap news hx hl (fun j u hj => by rw [add_plain]; exact hcells j u hj) h1 (by unfold maxLen; omega) hby hbase ?_
    intro v' w' k1 k2 _
    exact fin v' w' k1 k2
/-- Spans of which nothing wraps. -/
def BdS (l : List Sp) : Prop := ∀ s ∈ l, s.1 + s.2 ≤ 1099511627776
theorem BdS.app {l : List Sp} {x : Sp} (h : BdS l) (hx : x.1 + x.2 ≤ 1099511627776) : BdS (app l x) := by
  by_cases h0 : x.2 = 0
  · rw [app_zero h0]; exact h
  · rcases snoc_cases l with rfl | ⟨i, y, rfl⟩
    · rw [app_nil h0]; intro s hs; rw [List.mem_singleton.1 hs]; exact hx
    · by_cases e : y.1 + y.2 = x.1
      · rw [app_join h0 e]
        intro s hs
        rcases List.mem_append.1 hs with hs | hs
        · exact h s (List.mem_append_left _ hs)
        · rw [List.mem_singleton.1 hs]; show y.1 + (y.2 + x.2) ≤ _; omega
      · rw [app_new h0 e]
        intro s hs
        rcases List.mem_append.1 hs with hs | hs
        · exact h s hs
        · rw [List.mem_singleton.1 hs]; exact hx
theorem BdS.join {l : List Sp} (h : BdS l) : BdS (joinL l) := by
  induction l using snoc_rec with
  | h0 => intro s hs; cases hs
  | h1 l x ih => rw [joinL_snoc]; exact (ih fun s hs => h s (List.mem_append_left _ hs)).app (h x (by simp))
/-- A chain in memory: its block, and behind it the row of its spans. -/
def ChB (w : World) (b : Nat) (v : Value) (l : List Sp) : Prop := Own w b [v] ∧ b < w.heap.size ∧ Row (b + 1) 57 2 w v l.length (lc spC l)
theorem ChB.below {w w' : World} {b : Nat} {v : Value} {l : List Sp} (h : ChB w b v l) (hb : Below w.heap.size w w') : ChB w' b v l :=
  ⟨h.1.below hb h.2.1, Nat.lt_of_lt_of_le h.2.1 hb.size, h.2.2.below hb⟩
def Chn (base : Nat) (w : World) (p : Value) (l : List Sp) : Prop := ∃ b v, p = .pointer (some ⟨b, 0, none⟩) ∧ base ≤ b ∧ ChB w b v l
theorem Chn.below {w w' : World} {base : Nat} {p : Value} {l : List Sp} (h : Chn base w p l) (hb : Below w.heap.size w w') : Chn base w' p l := by
  obtain ⟨b, v, h1, h2, h3⟩ := h
  exact ⟨b, v, h1, h2, h3.below hb⟩
theorem Chn.mono {w : World} {base base' : Nat} {p : Value} {l : List Sp} (h : Chn base w p l) (hb : base' ≤ base) : Chn base' w p l := by
  obtain ⟨b, v, h1, h2, h3⟩ := h
  exact ⟨b, v, h1, Nat.le_trans hb h2, h3⟩
end Go.Proofs.Ytfnaoekkdgndkaa
