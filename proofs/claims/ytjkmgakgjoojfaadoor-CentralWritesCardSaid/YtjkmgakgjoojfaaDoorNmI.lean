/- A text's parts: plain words. -/
import Derived.Test.YtjkmgakgjoojfaaDoorNmA
import Derived.Lib.SplitLaws
import Derived.Laws.AppendOwn
namespace Go.Proofs.YtjkmgakgjoojfaaDoor
set_option linter.unusedVariables false
set_option linter.unusedSimpArgs false
open Go.RowKit
def sl : ByteArray := ⟨#[47]⟩
/-- The parts between the slashes. -/
def pieces (s : ByteArray) : List ByteArray := Lib.splitB sl 0 (Lib.countB s sl) s
theorem sl_size : sl.size = 1 := rfl
theorem occ_one (l : List UInt8) (i : Nat) : Lib.occAt l [47] i = (l[i]? == some 47) := by
  unfold Lib.occAt
  by_cases h : i < l.length
  · rw [List.drop_eq_getElem_cons h]
    simp [List.isPrefixOf, h, eq_comm, Bool.beq_eq_decide_eq]
  · rw [List.drop_eq_nil_of_le (by omega), List.getElem?_eq_none (by omega)]
    rfl
theorem idx_hit (s : ByteArray) (i : Nat) (he : s.data[i]? = some 47) (hn : ∀ j, j < i → s.data[j]? ≠ some 47) : Lib.indexB s sl = i := by
  have hi : i < s.data.size := by
    have := Array.getElem?_eq_some_iff.1 he
    exact this.1
  refine Lib.index_first (by rw [Array.length_toList]; omega) ?_ fun j hj => ?_
  · rw [show sl.data.toList = [47] from rfl, occ_one, Array.getElem?_toList, he]; rfl
  · rw [show sl.data.toList = [47] from rfl, occ_one, Array.getElem?_toList, beq_eq_false_iff_ne]
    exact hn j hj
theorem idx_miss (s : ByteArray) (hn : ∀ j : Nat, s.data[j]? ≠ some 47) : Lib.indexB s sl = -1 := by
  refine Lib.index_none fun j _ => ?_
  rw [show sl.data.toList = [47] from rfl, occ_one, Array.getElem?_toList, beq_eq_false_iff_ne]
  exact hn j
theorem pieces_hit (s : ByteArray) (i : Nat) (he : s.data[i]? = some 47) (hn : ∀ j, j < i → s.data[j]? ≠ some 47) : pieces s = s.extract 0 i :: pieces (s.extract (i + 1) s.size) := by
  have h := idx_hit s i he hn
  unfold pieces
  rw [Lib.countB_hit s sl i (by rw [sl_size]; omega) h, Nat.add_comm 1, Lib.splitB_hit _ _ _ _ i h, sl_size]
  rfl
theorem pieces_miss (s : ByteArray) (hn : ∀ j : Nat, s.data[j]? ≠ some 47) : pieces s = [s] := Lib.splitB_miss _ _ _ _ (idx_miss s hn)
theorem pieces_length (s : ByteArray) : (pieces s).length = Lib.countB s sl + 1 := Lib.splitB_all sl (by rw [sl_size]; omega) 0 _ s rfl
theorem pieces_le (s : ByteArray) : (pieces s).length ≤ s.size + 1 := by
  rw [pieces_length]
  have := Lib.countB_le sl (by rw [sl_size]; omega) s.size s (Nat.le_refl _)
  omega
theorem ext_get (s : ByteArray) (a b j : Nat) (h : b ≤ s.size) : (s.extract a b).data[j]? = if a + j < b then s.data[a + j]? else none := by
  rw [ByteArray.data_extract, Array.getElem?_extract]
  have : s.data.size = s.size := rfl
  by_cases c : a + j < b
  · rw [if_pos (by omega), if_pos c]
  · rw [if_neg (by omega), if_neg c]
theorem ext_ext (s : ByteArray) (a b c d : Nat) (h : b ≤ s.size) (h2 : a + d ≤ b) : (s.extract a b).extract c d = s.extract (a + c) (a + d) := by
  apply ByteArray.ext
  apply Array.ext_getElem?
  intro j
  have hz : (s.extract a b).size = b - a := by rw [ByteArray.size_extract]; omega
  rw [ext_get (s.extract a b) _ _ _ (by rw [hz]; omega), ext_get s (a + c) (a + d) _ (by omega)]
  by_cases k : c + j < d
  · rw [if_pos k, if_pos (by omega), ext_get _ _ _ _ h, if_pos (by omega), Nat.add_assoc]
  · rw [if_neg k, if_neg (by omega)]
/-- No slash from one place to another. -/
def NoSl (s : ByteArray) (a b : Nat) : Prop := ∀ j, a ≤ j → j < b → s.data[j]? ≠ some 47
theorem NoSl.step {s : ByteArray} {a b : Nat} (h : NoSl s a b) (hb : b < s.size) (hn : s[b] ≠ 47) : NoSl s a (b + 1) := by
  intro j h1 h2
  by_cases e : j = b
  · subst e
    rw [Array.getElem?_eq_getElem (show j < s.data.size from hb)]
    intro q
    exact hn (Option.some.inj q)
  · exact h j h1 (by omega)
theorem piece_step (s : ByteArray) (a i : Nat) (ha : a ≤ i) (hi : i < s.size) (hn : NoSl s a i) (hb : s[i] = 47) : pieces (s.extract a s.size) = s.extract a i :: pieces (s.extract (i + 1) s.size) := by
  rw [pieces_hit (s.extract a s.size) (i - a) ?_ ?_]
  · have hz : (s.extract a s.size).size = s.size - a := by rw [ByteArray.size_extract]; omega
    rw [ext_ext _ _ _ _ _ (Nat.le_refl _) (by omega), ext_ext _ _ _ _ _ (Nat.le_refl _) (by rw [hz]; omega), hz, Nat.add_zero, show a + (i - a) = i by omega, show a + (i - a + 1) = i + 1 by omega, show a + (s.size - a) = s.size by omega]
  · rw [ext_get _ _ _ _ (Nat.le_refl _), if_pos (by omega), show a + (i - a) = i by omega, Array.getElem?_eq_getElem (show i < s.data.size from hi)]
    exact congrArg some hb
  · intro j hj
    rw [ext_get _ _ _ _ (Nat.le_refl _), if_pos (by omega)]
    exact hn _ (by omega) (by omega)
theorem piece_end (s : ByteArray) (a : Nat) (hn : NoSl s a s.size) : pieces (s.extract a s.size) = [s.extract a s.size] := by
  refine pieces_miss _ fun j => ?_
  rw [ext_get _ _ _ _ (Nat.le_refl _)]
  split
  · exact hn _ (by omega) (by omega)
  · intro h
    cases h
theorem ext_all (s : ByteArray) : s.extract 0 s.size = s := by
  apply ByteArray.ext
  rw [ByteArray.data_extract]
  simp
theorem ext_none (s : ByteArray) (a : Nat) (h : s.size ≤ a) : s.extract a s.size = ByteArray.empty := by
  apply ByteArray.ext
  rw [ByteArray.data_extract]
  simp
  exact h
/-- Texts in memory, one behind the other. -/
def Strs (w : World) (v : Value) (l : List ByteArray) : Prop := ∃ b off cap, v = .slice (some ⟨b, off, none⟩) l.length cap ∧ b < w.heap.size ∧ ∀ j (h : j < l.length), w.cell? ⟨b, off + j, none⟩ = some (.string l[j])
theorem Strs.below {w w' : World} {v : Value} {l : List ByteArray} (h : Strs w v l) (hb : Below w.heap.size w w') : Strs w' v l := by
  obtain ⟨b, off, cap, h1, h2, h3⟩ := h
  exact ⟨b, off, cap, h1, Nat.lt_of_lt_of_le h2 hb.size, fun j hj => (hb.cell (p := ⟨b, off + j, none⟩) h2).trans (h3 j hj)⟩
theorem Strs.new (w : World) (l : List ByteArray) (t : TypeId) : Strs (w.alloc (.cells (l.map Value.string).toArray t)) (.slice (some ⟨w.heap.size, 0, none⟩) l.length l.length) l := by
  refine ⟨_, _, _, rfl, by simp, fun j hj => ?_⟩
  rw [World.cell?_alloc_at _ _ _ _ rfl]
  simp [hj]
theorem Strs.of_own {base : Nat} {w : World} {v : Value} {l : List ByteArray} (h : w.ownsRow base 9 1 v l.length (l.map Value.string)) (hl : 0 < l.length) : Strs w v l := by
  have hh := h
  rcases h.2 with ⟨h1, h2⟩ | ⟨g, cap, cur, hv, hg, hb, hn, hc⟩
  · omega
  · refine ⟨g, 0, cap, hv, ?_, fun j hj => ?_⟩
    · exact (World.ownsRow.lt hh g (by rw [hv]; rfl)).2
    · have := World.ownsRow.cells hh (g := g) (by rw [hv]; rfl) j (.string l[j]) (by simp [hj])
      have hadd : (⟨g, 0, none⟩ : Addr).add j = ⟨g, 0 + j, none⟩ := by unfold Addr.add; split <;> simp_all
      rw [hadd] at this
      exact this
/-- What both Parts tell. -/
def PQ (s : ByteArray) (w : World) (e : Ending) (w' : World) : Prop := ∃ v, e = .returned v ∧ Strs w' v (pieces s) ∧ Below w.heap.size w w'
theorem parts_any (s : ByteArray) (w : World) (hA : Amb w) (hs : s.size < 4294967281) : Calls Tryd.prog 62 #[.string s] w (PQ s w) := by
  obtain ⟨m, hm⟩ := hA.2.2
  have HD := Lib.hid (Tryd.strings_Split s sl m w hs hm (by rw [sl_size]; omega))
  have HP := Lib.hid (pieces_length s)
  have HE := Lib.hid (show pieces s = Lib.splitB sl 0 (Lib.countB s sl) s from rfl)
  clear hm hA
  generalize Lib.countB s sl = n at *
  generalize Lib.splitB sl 0 n s = l at *
  go_enter Tryd.func62, Tryd.ntmps62
  go_wp2_with (first | (go_at_call 65; refine HD.out.mono ?_; rintro e w' ⟨rfl, rfl⟩))
  go_ret
  refine ⟨_, rfl, ?_, (Below.refl _ _).alloc (Nat.le_refl _) _⟩
  have h := Strs.new w l 9
  rw [← HE.out, HP.out] at h
  rw [← HE.out]
  exact h
end Go.Proofs.YtjkmgakgjoojfaaDoor
