/- Bytes that are written one behind the other. -/
import Derived.Test.YtcpojpgdjjmfbaaDoorPut
import Derived.Test.YtcpojpgdjjmfbaaDoorMono
import Derived.Test.YtcpojpgdjjmfbaaDoorMonoT
import Derived.Lib.AppendStr
namespace Go.Proofs.YtcpojpgdjjmfbaaDoor
set_option linter.unusedVariables false
set_option linter.unusedSimpArgs false
set_option maxRecDepth 100000
open Go.RowKit
theorem hstSU {k : IntKind} {l : List Int} : ∀ v W W', (fun v (W : World) => SU k W v l) v W → Below W.heap.size W W' → (fun v (W : World) => SU k W v l) v W' := fun _ _ _ h hb => h.below hb
theorem hstB2 {l : List UInt8} : ∀ v W W', (fun v (W : World) => Byt W W.heap.size v l) v W → Below W.heap.size W W' → (fun v (W : World) => Byt W W.heap.size v l) v W' := fun _ _ _ h hb => (h.below hb).mono hb.size
theorem Cells.drewN {w : World} {b : Nat} {cs : List Value} (h : Cells w b cs) (n : Nat) : Cells (w.drewN n) b cs := h.below (below_drewN (Below.refl (b + 1) w) n) (Nat.lt_succ_self b)
/-- octet.Append onto bytes of whatever value. -/
theorem appO {w : World} {v : Value} {l : List UInt8} (n x : Nat) (h : Byt w w.heap.size v l) (hl : l.length ≤ 100000000) (n1 : 1 ≤ n) (n2 : n ≤ 8) (hx : x < 18446744073709551616) :
    Calls Tryd.prog 26 #[v, .int .i64 (n : Nat), .int .u64 (x : Nat)] w fun e w' => ∃ v', e = .returned v' ∧ OB w.heap.size w' v' (l ++ byt n x) ∧ Below w.heap.size w w' := by
  obtain ⟨a, cap, rfl⟩ := h.slice
  exact append_yes a cap l n x w h (Nat.le_refl _) hl n1 n2 hx
theorem nil_byt (w : World) : Byt w w.heap.size (.slice none 0 0) [] := .inl ⟨none, 0, rfl, rfl, fun _ => rfl⟩
theorem append_OS {w : World} {ops : Array Oper} {rest : List Oper} {o : Oper} {a : Act} {Q : Exit → Act → World → Prop} (hgd : o.guard = none) (s x : Operand)
    (ho : o.op = .call { callee := .builtin .append, args := #[s, x], argTypes := #[31, 9] }) {base : Nat} {v : Value} {m : List UInt8} (hs : a.eval s = v) (hown : OB base w v m)
    {p : ByteArray} (hx : a.eval x = .string p) (hn : m.length + p.size ≤ 1000000000000) (hbase : base ≤ w.heap.size)
    (h : ∀ v' w', OB base w' v' (m ++ p.data.toList) → Below base w w' → wpList Tryd.prog ops Q rest (a.put o.dst v') w') : wpList Tryd.prog ops Q (o :: rest) a w := by
  obtain ⟨i0, hi, hz0, hz1, hz2⟩ := info_parts info_u8
  refine Lib.wpList_append_own_string w hgd s x 31 9 ho base 5 i0 Tryd.underlying31 Tryd.underlying9 hi hz0 hz1 hz2 v m.length (bcells m) hs hown p hx (by unfold maxLen; omega) (by omega) hbase fun v' w' h1 h2 _ => h v' w' ?_ ?_
  · show w'.ownsRow _ _ _ _ _ _
    have e : (m ++ p.data.toList).length = m.length + p.size := by rw [List.length_append, Array.length_toList]; rfl
    rw [e, bcells_append]
    exact h1
  · exact (Below.refl _ _).grown h2 hbase (fun k hk => (World.ownsRow.lt hown k hk).1)
end Go.Proofs.YtcpojpgdjjmfbaaDoor
