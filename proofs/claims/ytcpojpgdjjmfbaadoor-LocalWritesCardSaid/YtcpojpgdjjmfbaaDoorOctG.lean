/- Contract of the page's Join. -/
import Derived.Test.YtcpojpgdjjmfbaaDoorOctF
import Derived.Laws.AppendOwnNone
namespace Go.Proofs.YtcpojpgdjjmfbaaDoor
set_option linter.unusedVariables false
set_option linter.unusedSimpArgs false
set_option maxRecDepth 100000
open Go.RowKit
/-- append of bytes, nil or not, to a row of the call's own. -/
theorem append_B {w : World} {ops : Array Oper} {rest : List Oper} {o : Oper} {a : Act} {Q : Exit → Act → World → Prop} (hgd : o.guard = none) (s x : Operand)
    (ho : o.op = .call { callee := .builtin .append, args := #[s, x], argTypes := #[31, 31] }) (base : Nat) (v : Value) (n : Nat) (xs : List Value) (hs : a.eval s = v) (hown : w.ownsRow base 5 1 v n xs)
    {B : Nat} {u : Value} {l : List UInt8} (hx : a.eval x = u) (hB : Byt w B u l) (hn : n + l.length ≤ 1000000000000) (hbase : base ≤ w.heap.size)
    (h : ∀ v' w', w'.ownsRow base 5 1 v' (n + l.length) (xs ++ bcells l) → w.grownBy w' v.ownBlock → wpList Tryd.prog ops Q rest (a.put o.dst v') w') : wpList Tryd.prog ops Q (o :: rest) a w := by
  obtain ⟨i0, hi, hz0, hz1, hz2⟩ := info_parts info_u8
  obtain ⟨au, cap, rfl⟩ := hB.slice
  cases au with
  | none =>
    have hl0 : l = [] ∧ cap = 0 := by
      rcases hB with ⟨a', cap', hv, rfl, hc⟩ | ⟨b, off, cap', hv, _⟩
      · injection hv with h1 _ h2
        subst h1 h2
        exact ⟨rfl, hc rfl⟩
      · injection hv with ha; cases ha
    obtain ⟨rfl, rfl⟩ := hl0
    refine wpList_append_own_none hgd s x 31 ho base 5 i0 1 Tryd.underlying31 hi v n xs hs hown hx ?_
    refine h v w ?_ ⟨rfl, rfl, rfl, Nat.le_refl _, fun _ _ _ => rfl⟩
    simpa [bcells] using hown
  | some ad =>
    refine wpList_append_own _ hgd s x 31 ho base 5 i0 (.int .u8 0) 1 1 Tryd.underlying31 hi hz0 hz1 hz2 rfl (by decide) v n xs hs hown ad l.length cap (bcells l) hx (by rw [bcells_length]; omega) hB.news.2 (bcells_one l) (by unfold maxLen; omega) (by omega) hbase ?_
    intro v' w' h1 h2 _
    exact h v' w' h1 h2
end Go.Proofs.YtcpojpgdjjmfbaaDoor
