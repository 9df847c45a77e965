/- Contract of the page's Join. -/
import Derived.Test.YtephiopgpfdchaaOctF
import Derived.Laws.AppendOwnNone
namespace Go.Proofs.Ytephiopgpfdchaa
open Go.RowKit
/-- append of bytes, nil or not, to a row of the call's own. -/
theorem append_B {w : World} {ops : Array Oper} {rest : List Oper} {o : Oper} {a : Act} {Q : Exit → Act → World → Prop} (hgd : o.guard = none) (s x : Operand)
    (ho : o.op = .call { callee := .builtin .append, args := #[s, x], argTypes := #[22, 22] }) (base : Nat) (v : Value) (n : Nat) (xs : List Value) (hs : a.eval s = v) (hown : w.ownsRow base 5 1 v n xs)
    {B : Nat} {u : Value} {l : List UInt8} (hx : a.eval x = u) (hB : Byt w B u l) (hn : n + l.length ≤ 1000000000000) (hbase : base ≤ w.heap.size)
    (h : ∀ v' w', w'.ownsRow base 5 1 v' (n + l.length) (xs ++ bcells l) → w.grownBy w' v.ownBlock → wpList Try.prog ops Q rest (a.put o.dst v') w') : wpList Try.prog ops Q (o :: rest) a w := by
  obtain ⟨i0, hi, hz0, hz1, hz2⟩ := info_parts info_u8
  obtain ⟨au, cap, rfl⟩ := hB.slice
  cases au with
  | none =>
    have hl0 : l = [] ∧ cap = 0 := by
      rcases hB with ⟨a', cap', hv, rfl, hc⟩ | ⟨b, off, cap', hv, _⟩
      · injection hv with h1 _ h2
        subst h1 h2
        exact ⟨rfl, hc rfl⟩
      · injection hv with ha; cases ha
    obtain ⟨rfl, rfl⟩ := hl0
    refine wpList_append_own_none hgd s x 22 ho base 5 i0 1 Try.underlying22 hi v n xs hs hown hx ?_
    refine h v w ?_ ⟨rfl, rfl, rfl, Nat.le_refl _, fun _ _ _ => rfl⟩
    simpa [bcells] using hown
  | some ad =>
    refine wpList_append_own _ hgd s x 22 ho base 5 i0 (.int .u8 0) 1 1 Try.underlying22 hi hz0 hz1 hz2 rfl (by decide) v n xs hs hown ad l.length cap (bcells l) hx (by rw [bcells_length]; omega) hB.news.2 (bcells_one l) (by unfold maxLen; omega) (by omega) hbase ?_
    intro v' w' h1 h2 _
    exact h v' w' h1 h2
set_option maxHeartbeats 400000 in
theorem join_any {w : World} {B : Nat} {u v : Value} {l m : List UInt8} (h1 : Byt w B u l) (h2 : Byt w B v m) (hB : B ≤ w.heap.size) (hl : l.length ≤ 100000000000) (hm : m.length ≤ 100000000000) :
    Calls Try.prog 14 #[u, v] w fun e w' => ∃ v', e = .returned v' ∧ w'.ownsRow w.heap.size 5 1 v' (l ++ m).length (bcells (l ++ m)) ∧ Below w.heap.size w w' := by
  have H1 := Lib.hid h1
  have H2 := Lib.hid h2
  clear h1 h2
  have hb0 : Below w.heap.size w (w.alloc (.cells #[] 5)) := (Below.refl _ _).alloc (Nat.le_refl _) _
  have HB0 := Lib.hid hb0
  clear hb0
  go_enter Try.func14, Try.ntmps14
  go_wp2_with (at_builtin; refine append_B rfl _ _ rfl w.heap.size _ 0 [] rfl ⟨rfl, .inr ⟨w.heap.size, 0, #[], rfl, Nat.le_refl _, heap_alloc_new _ _, Nat.le_refl _, Nat.zero_le _, rfl, rfl⟩⟩ rfl (H1.out.below (HB0.out.mono hB)) (by omega) (by simp) ?_)
  intro v1 w1 hown hg
  have hb1 : Below w.heap.size w w1 := Below.grown HB0.out hg (by simp) (by simp [Value.ownBlock])
  have HB1 := Lib.hid hb1
  have hs1 := hb1.size
  clear hb1 hg HB0
  go_wp2_with (at_builtin; refine append_B rfl _ _ rfl w.heap.size _ l.length (bcells l) rfl hown rfl (H2.out.below (HB1.out.mono hB)) (by omega) hs1 ?_)
  intro v2 w2 hown2 hg2
  have hb2 : Below w.heap.size w w2 := Below.grown HB1.out hg2 hs1 (fun k hk => (hown.lt k hk).1)
  have HO : Hid (w2.ownsRow w.heap.size 5 1 v2 (l ++ m).length (bcells (l ++ m))) := by
    rw [List.length_append, bcells_append]; exact hown2
  have HB2 := Lib.hid hb2
  clear hb2 hown2 hown hg2
  go_wp2
  go_ret
  exact ⟨_, rfl, HO.out, HB2.out⟩
end Go.Proofs.Ytephiopgpfdchaa
