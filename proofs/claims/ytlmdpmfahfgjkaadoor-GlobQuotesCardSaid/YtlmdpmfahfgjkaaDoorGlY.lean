/- glob.Quote: a strings.Builder written byte by byte. (copyCheck and WriteByte follow the kit's own proofs of them, turned to this dump.) -/
import Derived.Test.YtlmdpmfahfgjkaaDoorGlX
import Derived.Test.YtlmdpmfahfgjkaaDoorShelf
import Derived.Lib.Builder
namespace Go.Proofs.YtlmdpmfahfgjkaaDoor
set_option maxRecDepth 100000
set_option linter.unusedVariables false
set_option linter.unusedSimpArgs false
open Go.RowKit
theorem b_size : (Tryd.prog.info? 74).map (·.size) = some 2 := by kernel_rfl
theorem b_lies : liesAt Tryd.prog Tryd.prog.depth 74 (2 / Tryd.prog.cellsOf 74) 0 74 1 = true := by kernel_rfl
theorem info_u8 : (Tryd.prog.info? 5).map (fun i => (i.zero, i.size, i.bytes)) = some (some (.int .u8 0), 1, 1) := by kernel_rfl
theorem copyCheck_used (b : Nat) (w : World) (h0 : w.cell? ⟨b, 0, none⟩ = some (.pointer (some ⟨b, 0, none⟩))) :
    Calls Tryd.prog 34 #[.pointer (some ⟨b, 0, none⟩)] w fun e w' => e = .returned (.tuple #[]) ∧ w = w' := by
  obtain ⟨j, hj, _⟩ := Option.map_eq_some_iff.1 b_size
  go_enter Tryd.func34, Tryd.ntmps34
  go_wp2
  rw [Lib.run_neq_ptr_same w _ Tryd.underlying71 hj]
  go_wp2
  go_end0
  exact ⟨rfl, rfl⟩
theorem copyCheck_fresh (b : Nat) (w : World) (h0 : w.cell? ⟨b, 0, none⟩ = some (.pointer none)) (hsh : w.shape? b = some (74, 2)) (hfz : w.frozen? ⟨b, 0, none⟩ = false) :
    Calls Tryd.prog 34 #[.pointer (some ⟨b, 0, none⟩)] w fun e w' => e = .returned (.tuple #[]) ∧ w' = w.setCell ⟨b, 0, none⟩ (.pointer (some ⟨b, 0, none⟩)) := by
  obtain ⟨j, hj, hjs⟩ := Option.map_eq_some_iff.1 b_size
  go_enter Tryd.func34, Tryd.ntmps34
  go_wp2
  rw [Lib.run_to_unsafe w ⟨b, 0, none⟩ Tryd.underlying71 Tryd.underlying90 hj (by rw [hjs]; decide) hsh (Nat.zero_lt_succ 1)]
  simp only [Result.andThen]
  rw [Oper.upon_value]
  go_wp2
  rw [run_callFunc_extern Tryd.func38 (by kernel_rfl) (by kernel_rfl) (by kernel_rfl) (e := Extern.AbiNoEscape.same) (by kernel_rfl)]
  rw [Lib.run_noEscape]
  simp only [Result.andThen]
  rw [Oper.upon_value]
  go_wp2
  rw [Lib.run_from_unsafe w ⟨b, 0, none⟩ Tryd.underlying90 Tryd.underlying71 hj hsh b_lies]
  simp only [Result.andThen]
  rw [Oper.upon_value]
  go_wp2
  go_end0
  exact ⟨rfl, rfl⟩
abbrev IsB (B b : Nat) (bs : List Value) (w : World) : Prop := Lib.IsBuilder 74 5 B b bs w
abbrev BAt (B b : Nat) (bs : List Value) (w : World) : Prop := Lib.BuilderAt 74 5 B b (.pointer (some ⟨b, 0, none⟩)) bs w
theorem copyCheck_any (B b : Nat) (bs : List Value) (w : World) (h : IsB B b bs w) :
    Calls Tryd.prog 34 #[.pointer (some ⟨b, 0, none⟩)] w fun e w' => e = .returned (.tuple #[]) ∧ BAt B b bs w' ∧ Below B w w' := by
  rcases h with h | h
  · refine (copyCheck_fresh b w h.cell0 h.shape h.frozen0).mono ?_
    rintro e w' ⟨rfl, rfl⟩
    exact ⟨rfl, h.used _, (Below.refl B w).setCell (p := ⟨b, 0, none⟩) h.1 _⟩
  · refine (copyCheck_used b w h.cell0).mono ?_
    rintro e w' ⟨rfl, rfl⟩
    exact ⟨rfl, h, Below.refl B _⟩
set_option maxHeartbeats 2000000 in
theorem writeByte_any (B b : Nat) (bs : List Value) (c : Int) (w : World) (h : IsB B b bs w) (hlen : bs.length + 1 ≤ 1000000) (hBw : B ≤ w.heap.size) :
    Calls Tryd.prog 27 #[.pointer (some ⟨b, 0, none⟩), .int .u8 c] w fun e w' => e = .returned .nilIface ∧ BAt B b (bs ++ [.int .u8 c]) w' ∧ Below B w w' := by
  obtain ⟨i0, hi, hz0, hz1, hz2⟩ := info_parts info_u8
  have hne5 : 74 ≠ 5 := by decide
  go_enter Tryd.func27, Tryd.ntmps27
  go_wp2_with (fail)
  refine (copyCheck_any B b bs _ h).mono ?_
  rintro e w1 ⟨rfl, h1, hb1⟩
  obtain ⟨hB, v, hbk, hown, hne⟩ := h1
  have c0 : w1.cell? ⟨b, 0, none⟩ = some (.pointer (some ⟨b, 0, none⟩)) := by rw [Lib.cell_of_heap hbk]; rfl
  have c1 : w1.cell? ⟨b, 1, none⟩ = some v := by rw [Lib.cell_of_heap hbk]; rfl
  go_wp2_with (at_builtin; refine wpList_append_own _ rfl _ _ 72 rfl B 5 i0 (.int .u8 0) 1 1 Tryd.underlying72 hi hz0 hz1 hz2 rfl (by decide) _ _ _ rfl (hown.alloc _) ⟨w1.heap.size, 0, none⟩ 1 1 [.int .u8 c] rfl rfl ?c1 ?c2 ?c3 ?c4 ?c5 ?_)
  case c1 =>
    intro j u hj
    match j, hj with
    | 0, hj => simp at hj; subst hj; simp [Addr.add]
  case c2 => intro u hu; simp at hu; subst hu; rfl
  case c3 => unfold maxLen; omega
  case c4 => omega
  case c5 => have := hb1.size; simp; omega
  intro v' w2 hown' hgrow _
  have hlt : b < w1.heap.size := by
    rcases Nat.lt_or_ge b w1.heap.size with h' | h'
    · exact h'
    · simp [Array.getElem?_eq_none h'] at hbk
  have hb2 : w2.heap[b]? = some (.cells #[.pointer (some ⟨b, 0, none⟩), v] 74 (0, 0)) := by
    rw [hgrow.block b (by simp; omega) (fun e => hne e.symm), Lib.alloc_old w1 _ b hlt]
    exact hbk
  have d0 : w2.cell? ⟨b, 0, none⟩ = some (.pointer (some ⟨b, 0, none⟩)) := by rw [Lib.cell_of_heap hb2]; rfl
  have d1 : w2.cell? ⟨b, 1, none⟩ = some v := by rw [Lib.cell_of_heap hb2]; rfl
  have f1 : w2.frozen? ⟨b, 1, none⟩ = false := Lib.frozen_of_heap hb2 1
  obtain ⟨g, cap, rfl⟩ : ∃ g cap, v' = .slice (some ⟨g, 0, none⟩) (bs.length + 1) cap := by
    rcases hown'.2 with ⟨_, h0⟩ | ⟨g, cap, cur, hv, _⟩
    · omega
    · exact ⟨g, cap, hv⟩
  go_wp2
  go_ret
  refine ⟨rfl, ?_, ?_⟩
  · exact Lib.BuilderAt.put (T := 74) (e := 5) hB hb2 (bs' := bs ++ [.int .u8 c]) (by simpa using hown') hne5
  · exact ((hb1.alloc (by have := hb1.size; omega) _).grown hgrow (by have := hb1.size; simp; omega) (fun k hk => (hown.lt k hk).1)).setCell (p := ⟨b, 1, none⟩) hB _
theorem quote_snoc (l : List UInt8) (j : Nat) (x : UInt8) (h : l[j]? = some x) : quote (l.take (j + 1)) = quote (l.take j) ++ q1 x := by
  obtain ⟨hj, e⟩ := List.getElem?_eq_some_iff.1 h
  rw [List.take_succ_eq_append_getElem hj, e, quote_append]
  congr 1
  simp [quote]
theorem byteCells_append (l r : List UInt8) : Lib.byteCells (l ++ r) = Lib.byteCells l ++ Lib.byteCells r := by unfold Lib.byteCells; simp
theorem byteCells_len (l : List UInt8) : (Lib.byteCells l).length = l.length := by unfold Lib.byteCells; simp
theorem fresh_builder (w : World) : IsB w.heap.size w.heap.size [] (w.alloc (.cells #[.pointer none, .slice none 0 0] 74)) :=
  .inl ⟨Nat.le_refl _, .slice none 0 0, heap_alloc_new _ _, World.ownsRow_nil _ _ _ _, by simp [Value.ownBlock]⟩
set_option maxHeartbeats 4000000 in
theorem quote_any (s : ByteArray) (w : World) (hs : s.size ≤ 200) :
    Calls Tryd.prog 17 #[.string s] w fun e w' => e = .returned (.string (str (quote s.data.toList))) ∧ Below w.heap.size w w' := by
  have HL := Lib.hid (fun j => (quote_len (s.data.toList.take j)))
  have HFB := Lib.hid (fresh_builder w)
  go_enter Tryd.func17, Tryd.ntmps17
  go_wp2_with (fail)
  go_loopw [4, 7] (fun _ i wr => ∃ j : Nat, i = .int .i64 j ∧ j ≤ s.size ∧ Hid (IsB w.heap.size w.heap.size (Lib.byteCells (quote (s.data.toList.take j))) wr) ∧ Hid (Below w.heap.size w wr)) (fun _ i _ => s.size - (intOf i).toNat)
  case atStart => exact ⟨0, rfl, by omega, HFB, Lib.hid ((Below.refl _ _).alloc (Nat.le_refl _) _)⟩
  case round =>
    obtain ⟨j, rfl, hj, HI, HB⟩ := hrel
    by_cases hlt : j < s.size
    rotate_left
    · have d1 : decide (j < s.size) = false := decide_eq_false (by omega)
      have d2 : decide ((j : Int) < (s.size : Int)) = false := decide_eq_false (by omega)
      have hI := HI.out
      rw [List.take_of_length_le (by simp; omega)] at hI
      have HST := Lib.hid (Tryd.Builder_String_any w.heap.size w.heap.size _ wr hI HB.out.size)
      clear hlt hI
      go_wp2_with (fail)
      refine HST.out.mono ?_
      rintro e w1 ⟨rfl, hb⟩
      have HB := Lib.hid (HB.out.trans hb)
      clear hb
      go_wp2_with (fail)
      go_ret
      exact ⟨by rfl, HB.out⟩
    have d1 : decide (j < s.size) = true := decide_eq_true hlt
    have d2 : decide ((j : Int) < (s.size : Int)) = true := decide_eq_true (by omega)
    have q1' : IntKind.i64.wrap ((j : Int) + 1) = (j : Int) + 1 := IntWalk.i64_in _ (by omega)
    obtain ⟨x, hx⟩ : ∃ x, s[j] = x := ⟨_, rfl⟩
    have hx? : s.data.toList[j]? = some x := by
      rw [List.getElem?_eq_getElem (by simpa using hlt), ← hx]
      rfl
    have HSN := Lib.hid (quote_snoc _ j x hx?)
    have hlq : (Lib.byteCells (quote (s.data.toList.take j))).length ≤ 400 := by
      rw [byteCells_len]
      have := HL.out j
      have h2 : (s.data.toList.take j).length ≤ 200 := by rw [List.length_take]; omega
      omega
    clear hx?
    generalize hq : quote (s.data.toList.take j) = Q at *
    clear hq
    by_cases hsp : spB x = true
    · have HQ1 : Hid (q1 x = [92, x]) := Lib.hid (by unfold q1; rw [if_pos hsp])
      have hcs : x = 42 ∨ x = 63 ∨ x = 91 ∨ x = 92 := by
        unfold spB at hsp
        simpa [or_assoc] using hsp
      clear hsp
      have HW1 := Lib.hid (writeByte_any w.heap.size w.heap.size _ 92 wr HI.out (by omega) HB.out.size)
      have HXX : Hid (s[j] = x) := Lib.hid hx
      have HXV : Hid ((x.toNat : Int) = 42 ∨ (x.toNat : Int) = 63 ∨ (x.toNat : Int) = 91 ∨ (x.toNat : Int) = 92) := Lib.hid (by rcases hcs with rfl | rfl | rfl | rfl <;> decide)
      clear hx hcs
      have hxx : (s[j].toNat : Int) = (x.toNat : Int) := by rw [HXX.out]
      rcases HXV.out with hv | hv | hv | hv
      all_goals
        have hv2 : (s[j].toNat : Int) = _ := hxx.trans hv
        clear hxx
        have HV := Lib.hid hv
        clear hv
        go_wp2_with (fail)
        refine HW1.out.mono ?_
        rintro e w1 ⟨rfl, hb1, hb⟩
        have HB1 := Lib.hid (HB.out.trans hb)
        have HW2 := Lib.hid (writeByte_any w.heap.size w.heap.size _ (s[j].toNat : Int) w1 (.inr hb1) (by simp; omega) HB1.out.size)
        rw [hv2] at HW2
        clear hb1 hb
        go_wp2_with (fail)
        refine HW2.out.mono ?_
        rintro e w2 ⟨rfl, hb1, hb⟩
        have HB2 := Lib.hid (HB1.out.trans hb)
        have HI2 : Hid (IsB w.heap.size w.heap.size (Lib.byteCells (quote (s.data.toList.take (j + 1)))) w2) := Lib.hid (.inr (by
          rw [HSN.out, HQ1.out, byteCells_append]
          have e2 : Lib.byteCells [92, x] = [.int .u8 92] ++ [.int .u8 (x.toNat : Int)] := by unfold Lib.byteCells; rfl
          rw [e2, HV.out, ← List.append_assoc]
          exact hb1))
        clear hb1 hb HW1 HW2 hv2
        go_wp2_with (fail)
        go_roundw
        case rel => exact ⟨j + 1, rfl, hlt, HI2, HB2⟩
        case measure => simp [intOf] <;> omega
    · have HQ1 : Hid (q1 x = [x]) := Lib.hid (by unfold q1; rw [if_neg hsp])
      have HW1 := Lib.hid (writeByte_any w.heap.size w.heap.size _ (x.toNat : Int) wr HI.out (by omega) HB.out.size)
      have hcs : x ≠ 42 ∧ x ≠ 63 ∧ x ≠ 91 ∧ x ≠ 92 := by
        unfold spB at hsp
        simpa [and_assoc] using hsp
      have n1 : ((s[j].toNat : Int) == 42) = false := by rw [hx]; simp; intro h; exact hcs.1 (UInt8.toNat_inj.1 (by have : (42 : UInt8).toNat = 42 := rfl; omega))
      have n2 : ((s[j].toNat : Int) == 63) = false := by rw [hx]; simp; intro h; exact hcs.2.1 (UInt8.toNat_inj.1 (by have : (63 : UInt8).toNat = 63 := rfl; omega))
      have n3 : ((s[j].toNat : Int) == 91) = false := by rw [hx]; simp; intro h; exact hcs.2.2.1 (UInt8.toNat_inj.1 (by have : (91 : UInt8).toNat = 91 := rfl; omega))
      have n4 : ((s[j].toNat : Int) == 92) = false := by rw [hx]; simp; intro h; exact hcs.2.2.2 (UInt8.toNat_inj.1 (by have : (92 : UInt8).toNat = 92 := rfl; omega))
      have HXX : Hid (s[j] = x) := Lib.hid hx
      clear hsp hcs hx
      rw [← HXX.out] at HW1
      go_wp2_with (fail)
      refine HW1.out.mono ?_
      rintro e w1 ⟨rfl, hb1, hb⟩
      have HB2 := Lib.hid (HB.out.trans hb)
      have HI2 : Hid (IsB w.heap.size w.heap.size (Lib.byteCells (quote (s.data.toList.take (j + 1)))) w1) := Lib.hid (.inr (by
        rw [HSN.out, HQ1.out, byteCells_append]
        rw [HXX.out] at hb1
        exact hb1))
      clear hb1 hb HW1
      go_wp2_with (fail)
      go_roundw
      case rel => exact ⟨j + 1, rfl, hlt, HI2, HB2⟩
      case measure => simp [intOf] <;> omega
end Go.Proofs.YtlmdpmfahfgjkaaDoor
