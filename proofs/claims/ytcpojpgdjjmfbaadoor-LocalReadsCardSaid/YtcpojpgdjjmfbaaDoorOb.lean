/- Bytes in a row of the call's own; slices of numbers. -/
import Derived.Test.YtcpojpgdjjmfbaaDoorOctG
import Derived.Test.YtcpojpgdjjmfbaaDoorCells
import Derived.Deep.AppendLies
import Derived.Deep.Onto
namespace Go.Proofs.YtcpojpgdjjmfbaaDoor
set_option linter.unusedVariables false
set_option linter.unusedSimpArgs false
set_option maxRecDepth 100000
open Go.RowKit
/-- The value is a row of bytes of the call's own, made behind block base. -/
def OB (base : Nat) (w : World) (v : Value) (l : List UInt8) : Prop := w.ownsRow base 5 1 v l.length (bcells l)
theorem grown_of_below {w w' : World} (hb : Below w.heap.size w w') : w.grownBy w' none := ⟨hb.os, hb.tape, hb.output, hb.size, fun k hk _ => hb.block k hk⟩
theorem own_below {w w' : World} {base t size n : Nat} {v : Value} {xs : List Value} (h : w.ownsRow base t size v n xs) (hb : Below w.heap.size w w') : w'.ownsRow base t size v n xs :=
  h.kept (grown_of_below hb) (by cases h : v.ownBlock <;> simp)
theorem OB.below {base : Nat} {w w' : World} {v : Value} {l : List UInt8} (h : OB base w v l) (hb : Below w.heap.size w w') : OB base w' v l := own_below h hb
theorem OB.byt {base : Nat} {w : World} {v : Value} {l : List UInt8} (h : OB base w v l) : Byt w w.heap.size v l := Byt.of_own h
theorem OB.mono {base base' : Nat} {w : World} {v : Value} {l : List UInt8} (h : OB base w v l) (hb : base' ≤ base) : OB base' w v l := World.ownsRow.mono h hb
theorem OB.nil (base : Nat) (w : World) : OB base w (.slice none 0 0) [] := World.ownsRow_nil _ _ _ _
theorem OB.form {base : Nat} {w : World} {v : Value} {l : List UInt8} (h : OB base w v l) : ∃ a cap, v = .slice a l.length cap ∧ l.length ≤ cap := by
  rcases h.2 with ⟨h1, h2⟩ | ⟨g, cap, cur, hv, _, _, hn, _⟩
  · exact ⟨none, 0, by rw [h1, h2], by omega⟩
  · exact ⟨_, cap, hv, hn⟩
theorem OB.empty {base : Nat} (w : World) (hb : base ≤ w.heap.size) : OB base (w.alloc (.cells #[] 5)) (.slice (some ⟨w.heap.size, 0, none⟩) 0 0) [] :=
  ⟨rfl, .inr ⟨w.heap.size, 0, #[], rfl, hb, heap_alloc_new _ _, Nat.le_refl _, Nat.zero_le _, rfl, rfl⟩⟩
theorem one_byte (w : World) (x : UInt8) : Byt (w.alloc (.cells #[.int .u8 (x.toNat : Int)] 5)) (w.heap.size + 1) (.slice (some ⟨w.heap.size, 0, none⟩) 1 1) [x] := by
  refine .inr ⟨w.heap.size, 0, 1, rfl, by simp, by omega, fun j hj => ?_⟩
  rw [World.cell?_alloc_at _ _ _ _ rfl]
  match j, hj with
  | 0, _ => rfl
theorem append_OB {w : World} {ops : Array Oper} {rest : List Oper} {o : Oper} {a : Act} {Q : Exit → Act → World → Prop} (hgd : o.guard = none) (s x : Operand)
    (ho : o.op = .call { callee := .builtin .append, args := #[s, x], argTypes := #[31, 31] }) {base : Nat} {v : Value} {m : List UInt8} (hs : a.eval s = v) (hown : OB base w v m)
    {B : Nat} {u : Value} {l : List UInt8} (hx : a.eval x = u) (hB : Byt w B u l) (hn : m.length + l.length ≤ 1000000000000) (hbase : base ≤ w.heap.size)
    (h : ∀ v' w', OB base w' v' (m ++ l) → Below base w w' → wpList Tryd.prog ops Q rest (a.put o.dst v') w') : wpList Tryd.prog ops Q (o :: rest) a w := by
  refine append_B hgd s x ho base v m.length (bcells m) hs hown hx hB hn hbase fun v' w' h1 h2 => h v' w' ?_ ?_
  · show w'.ownsRow _ _ _ _ _ _
    rw [List.length_append, bcells_append]; exact h1
  · exact (Below.refl _ _).grown h2 hbase (fun k hk => (World.ownsRow.lt hown k hk).1)
/-- A slice of numbers, in memory. -/
def SU (k : IntKind) (W : World) (v : Value) (l : List Int) : Prop := ∃ b off cap, v = .slice (some ⟨b, off, none⟩) l.length cap ∧ b < W.heap.size ∧ ∀ j, j < l.length → W.cell? ⟨b, off + j, none⟩ = some (.int k (l.getD j 0))
theorem SU.below {k : IntKind} {W W' : World} {v : Value} {l : List Int} (h : SU k W v l) (hb : Below W.heap.size W W') : SU k W' v l := by
  obtain ⟨b, off, cap, h1, h2, h3⟩ := h
  exact ⟨b, off, cap, h1, Nat.lt_of_lt_of_le h2 hb.size, fun j hj => (hb.cell (p := ⟨b, off + j, none⟩) h2).trans (h3 j hj)⟩
theorem SU.new (k : IntKind) (W : World) (l : List Int) (t : TypeId) : SU k (W.alloc (.cells (l.map (Value.int k)).toArray t)) (.slice (some ⟨W.heap.size, 0, none⟩) l.length l.length) l := by
  refine ⟨_, _, _, rfl, by simp, fun j hj => ?_⟩
  rw [World.cell?_alloc_at _ _ _ _ rfl]
  simp [hj]
/-- Numbers as bytes, so many each. -/
def bys (n : Nat) (l : List Int) : List UInt8 := l.flatMap fun x => byt n x.toNat
theorem bys_snoc (n : Nat) (l : List Int) (j : Nat) (h : j < l.length) : bys n (l.take (j + 1)) = bys n (l.take j) ++ byt n (l.getD j 0).toNat := by
  unfold bys
  rw [List.take_succ_eq_append_getElem h, List.flatMap_append]
  simp [h]
theorem bys_length (n : Nat) : ∀ l : List Int, (bys n l).length = n * l.length
  | [] => rfl
  | x :: l => by
    show (byt n x.toNat ++ bys n l).length = _
    rw [List.length_append, byt_length, bys_length n l, List.length_cons, Nat.mul_succ, Nat.add_comm]
theorem two_bytes (w : World) (x y : UInt8) : Byt (w.alloc (.cells #[.int .u8 (x.toNat : Int), .int .u8 (y.toNat : Int)] 5)) (w.heap.size + 1) (.slice (some ⟨w.heap.size, 0, none⟩) 2 2) [x, y] := by
  refine .inr ⟨w.heap.size, 0, 2, rfl, by simp, by omega, fun j hj => ?_⟩
  rw [World.cell?_alloc_at _ _ _ _ rfl]
  match j, hj with
  | 0, _ => rfl
  | 1, _ => rfl
end Go.Proofs.YtcpojpgdjjmfbaaDoor
