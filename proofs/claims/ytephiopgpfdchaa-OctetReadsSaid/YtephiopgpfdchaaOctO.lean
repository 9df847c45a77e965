/- An argument that is a slice of bytes reads as bytes. -/
import Derived.Test.YtephiopgpfdchaaLaw
import Derived.Test.YtephiopgpfdchaaByt
import Derived.ChangeSlices
namespace Go.Proofs.Ytephiopgpfdchaa
open Go.RowKit Go.ChangeShapes Go.WideShapes
theorem u8_bd {n : Int} (h : (Lit.int .u8 n).wf = true) : 0 ≤ n ∧ n ≤ 255 := by
  simpa [Lit.wf, IntKind.min, IntKind.max, IntKind.signed, IntKind.bits] using h
theorem u64_bd {n : Int} (h : (Lit.int .u64 n).wf = true) : 0 ≤ n ∧ n ≤ 18446744073709551615 := by
  simpa [Lit.wf, IntKind.min, IntKind.max, IntKind.signed, IntKind.bits] using h
theorem i64_bd {n : Int} (h : (Lit.int .i64 n).wf = true) : -9223372036854775808 ≤ n ∧ n ≤ 9223372036854775807 := by
  simpa [Lit.wf, IntKind.min, IntKind.max, IntKind.signed, IntKind.bits] using h
theorem bytes_open {H : Type} {enc : TypeId × Value → H} {w : World} {base : Nat} {spare : Nat → Bool} {held : Bool} {fuel : Nat} {v : Value} {x : DataW H × List MemPlace} (h : DataW.trod enc Try.prog w base spare held fuel 22 [v] = some x) :
    ∃ a c l, v = .slice a l.length c ∧ l.length ≤ c ∧ Byt w w.heap.size v l ∧ l.length ≤ maxLen := by
  rcases open_ints Try.underlying22 Try.underlying5 (by kernel_rfl) h with ⟨h0, _⟩ | ⟨a, len, cap, zs, hcs, hb, hl, hm, hmm, hx, hi, hw⟩
  · injection h0 with h0
    exact ⟨none, 0, [], h0, Nat.le_refl _, .inl ⟨none, 0, h0, rfl, fun _ => rfl⟩, by decide⟩
  · injection hcs with hv
    have hzl : len ≤ zs.length := by rw [hmm]; split <;> omega
    refine ⟨some a, cap, (zs.take len).map (fun z => UInt8.ofNat z.toNat), ?_, ?_, ?_, ?_⟩
    · rw [hv, List.length_map, List.length_take, Nat.min_eq_left hzl]
    · rw [List.length_map, List.length_take]; omega
    · by_cases hz : len = 0
      · subst hz
        exact .inl ⟨some a, cap, hv, by simp, fun h => by cases h⟩
      · have h0 := hi 0 (by omega)
        have ha0 : a.add 0 = a := by simp [Addr.add]
        rw [ha0] at h0
        have hsp : a.spot = none := by
          unfold World.cell? at h0
          cases hs : a.spot with
          | none => rfl
          | some s =>
            exfalso
            simp only [hs] at h0
            split at h0 <;> simp at h0
        have hbl : a.block < w.heap.size := World.block_lt_of_cell? w _ h0
        have hadd : ∀ n, a.add n = ⟨a.block, a.off + n, none⟩ := by
          intro n
          unfold Addr.add
          split
          · rename_i h; subst h; cases a; simp_all
          · rfl
        have hlen : ((zs.take len).map (fun z => UInt8.ofNat z.toNat)).length = len := by rw [List.length_map, List.length_take, Nat.min_eq_left hzl]
        refine .inr ⟨a.block, a.off, cap, ?_, ?_, hbl, fun j hj => ?_⟩
        · rw [hlen, hv]; congr 2; cases a; simp_all
        · rw [hlen]; exact hl
        · rw [hlen] at hj
          have h1 := hi j (by omega)
          rw [hadd] at h1
          rw [h1]
          have hjz : j < zs.length := by omega
          have hwj := u8_bd (hw zs[j] (List.getElem_mem hjz))
          have e1 : zs.getD j 0 = zs[j] := by simp [hjz]
          have e2 : ((zs.take len).map (fun z => UInt8.ofNat z.toNat)).getD j 0 = UInt8.ofNat (zs[j]).toNat := by
            simp [hj, hjz]
          rw [e1, e2, UInt8.toNat_ofNat', Nat.mod_eq_of_lt (by omega), Int.toNat_of_nonneg hwj.1]
    · rw [List.length_map, List.length_take]; omega
end Go.Proofs.Ytephiopgpfdchaa
