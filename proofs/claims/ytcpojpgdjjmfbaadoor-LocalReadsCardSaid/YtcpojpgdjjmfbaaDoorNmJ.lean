/- The reference's Parts. -/
import Derived.Test.YtcpojpgdjjmfbaaDoorNmI
namespace Go.Proofs.YtcpojpgdjjmfbaaDoor
set_option linter.unusedVariables false
set_option linter.unusedSimpArgs false
set_option maxRecDepth 100000
open Go.RowKit
theorem info_str : (Tryd.prog.info? 9).map (fun i => (i.zero, i.size, i.bytes)) = some (some (.string ByteArray.empty), 1, 16) := by kernel_rfl
/-- Texts in a row of the call's own. -/
def SO (base : Nat) (w : World) (v : Value) (l : List ByteArray) : Prop := w.ownsRow base 9 1 v l.length (l.map Value.string)
theorem append_S {w : World} {ops : Array Oper} {rest : List Oper} {o : Oper} {a : Act} {Q : Exit → Act → World → Prop} (hgd : o.guard = none) (s x : Operand)
    (ho : o.op = .call { callee := .builtin .append, args := #[s, x], argTypes := #[78, 78] }) {base : Nat} {v : Value} {l : List ByteArray} (hs : a.eval s = v) (hown : SO base w v l)
    {b : Nat} {p : ByteArray} (hx : a.eval x = .slice (some ⟨b, 0, none⟩) 1 1) (hc : w.cell? ⟨b, 0, none⟩ = some (.string p)) (hn : l.length ≤ 5000000000) (hbase : base ≤ w.heap.size)
    (h : ∀ v' w', SO base w' v' (l ++ [p]) → Below base w w' → wpList Tryd.prog ops Q rest (a.put o.dst v') w') : wpList Tryd.prog ops Q (o :: rest) a w := by
  obtain ⟨i0, hi, hz0, hz1, hz2⟩ := info_parts info_str
  refine wpList_append_own _ hgd s x 78 ho base 9 i0 (.string ByteArray.empty) 1 16 Tryd.underlying78 hi hz0 hz1 hz2 rfl (by decide) v l.length (l.map Value.string) hs hown ⟨b, 0, none⟩ 1 1 [.string p] hx rfl ?_ ?_ ?_ ?_ hbase ?_
  · intro j u hu
    match j, hu with
    | 0, hu => injection hu with hu; subst hu; exact hc
  · intro u hu
    simp at hu
    subst hu
    rfl
  · unfold maxLen; omega
  · omega
  · intro v' w' h1 h2 _
    refine h v' w' ?_ ?_
    · show w'.ownsRow _ _ _ _ _ _
      rw [List.length_append, List.map_append]; exact h1
    · exact (Below.refl _ _).grown h2 hbase (fun k hk => (World.ownsRow.lt hown k hk).1)
/-- What the loop keeps: the parts so far, and where the next one begins. -/
def PR (s : ByteArray) (w0 wr : World) (v : Value) (a k : Nat) : Prop := ∃ l, SO w0.heap.size wr v l ∧ l ++ pieces (s.extract a s.size) = pieces s ∧ l.length ≤ a ∧ a ≤ k ∧ NoSl s a k ∧ Below w0.heap.size w0 wr
set_option maxHeartbeats 1000000 in
theorem refParts_any (s : ByteArray) (w : World) (hs : s.size < 4294967281) : Calls Tryd.prog 47 #[.string s] w (PQ s w) := by
  go_enter Tryd.func47, Tryd.ntmps47
  go_wp2
  go_loopw [3, 4, 5] (fun v f i wr => ∃ a k : Nat, f = .int .i64 a ∧ i = .int .i64 k ∧ k ≤ s.size ∧ a ≤ s.size ∧ PR s w wr v a k) (fun _ _ i _ => s.size - (intOf i).toNat)
  case atStart => exact ⟨0, 0, rfl, rfl, by omega, by omega, [], World.ownsRow_nil _ _ _ _, by rw [ext_all]; rfl, by simp, by omega, (fun j h1 h2 => by omega), Below.refl _ _⟩
  case round =>
    obtain ⟨a, k, rfl, rfl, hk, ha, l, HO, HP, hl, hak, HN, HB⟩ := hrel
    have KO := Lib.hid HO
    have KP := Lib.hid HP
    have KB := Lib.hid HB
    have KN := Lib.hid HN
    clear HO HP HB HN
    by_cases hlt : k < s.size
    · by_cases hb : s[k] = 47
      · have hq : (((s[k]).toNat : Int) == 47) = true := by rw [hb]; rfl
        have HP1 := Lib.hid (piece_step s a k hak hlt KN.out hb)
        clear hb
        go_wp2_with (first | (at_builtin; refine append_S rfl _ _ rfl rfl (World.ownsRow.alloc KO.out _) rfl (b := wr.heap.size) (p := s.extract a k) (by simp) (by omega) (by have := KB.out.size; simp; omega) ?_; intro v' w' h1 h2; have K1 := Lib.hid h1; have K2 := Lib.hid h2; clear h1 h2))
        go_roundw
        case rel => exact ⟨k + 1, k + 1, by go_num, by go_num, by omega, by omega, l ++ [s.extract a k], K1.out, by rw [← KP.out, HP1.out, List.append_assoc]; rfl, by simp; omega, by omega, (fun j h1 h2 => by omega), (KB.out.alloc (KB.out.size) _).trans K2.out⟩
        case measure => simp [intOf]; omega
      · have hq : (((s[k]).toNat : Int) == 47) = false := by
          rw [beq_eq_false_iff_ne]
          intro h
          exact hb (UInt8.toNat_inj.1 (by show _ = 47; omega))
        have HN1 := Lib.hid (KN.out.step hlt hb)
        clear hb
        go_wp2
        go_roundw
        case rel => exact ⟨a, k + 1, rfl, by go_num, by omega, by omega, l, KO.out, KP.out, hl, by omega, HN1.out, KB.out⟩
        case measure => simp [intOf]; omega
    · have hks : k = s.size := by omega
      have HE := Lib.hid (piece_end s a (by rw [← hks]; exact KN.out))
      clear hks
      have hext : (s.extract a s.size).size = s.size - a := by rw [ByteArray.size_extract]; omega
      clear hext
      go_wp2_with (first | (at_builtin; refine append_S rfl _ _ rfl rfl (World.ownsRow.alloc KO.out _) rfl (b := wr.heap.size) (p := s.extract a s.size) (by simp) (by omega) (by have := KB.out.size; simp; omega) ?_; intro v' w' h1 h2; have K1 := Lib.hid h1; have K2 := Lib.hid h2; clear h1 h2))
      go_ret
      have e : pieces s = l ++ [s.extract a s.size] := by rw [← KP.out, HE.out]
      exact ⟨_, rfl, by rw [e]; exact Strs.of_own K1.out (by simp), (KB.out.alloc (KB.out.size) _).trans K2.out⟩
end Go.Proofs.YtcpojpgdjjmfbaaDoor
