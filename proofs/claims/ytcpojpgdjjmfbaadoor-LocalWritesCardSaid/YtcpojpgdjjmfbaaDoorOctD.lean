/- Contracts of octet's Append and Put. -/
import Derived.Test.YtcpojpgdjjmfbaaDoorOctC
import Derived.Laws.CopyOwn
namespace Go.Proofs.YtcpojpgdjjmfbaaDoor
set_option linter.unusedVariables false
set_option linter.unusedSimpArgs false
set_option maxRecDepth 100000
open Go.RowKit
theorem gr_below0 {a b : World} (h : a.grownBy b none) : Below a.heap.size a b :=
  ⟨h.os, h.tape, h.output, h.size, fun k hk => h.block k hk (by simp)⟩
theorem splice_nil (cur : List Value) (off : Nat) : splice cur off [] = cur := by simp [splice]
theorem splice_set (cur : List Value) (off : Nat) (x : Value) (xs : List Value) (h : off < cur.length) : splice (cur.set off x) (off + 1) xs = splice cur off (x :: xs) := by
  unfold splice
  rw [List.take_set, List.drop_set]
  rw [if_pos (by omega)]
  rw [List.length_cons, show off + (xs.length + 1) = off + 1 + xs.length from by omega]
  have h1 : (cur.take (off + 1)).set off x = cur.take off ++ [x] := by
    rw [List.take_succ_eq_append_getElem h]
    rw [List.set_append_right _ _ (by simp; omega)]
    simp [List.length_take, Nat.min_eq_left (show off ≤ cur.length by omega)]
  rw [h1]
  simp
theorem laid_heap (b : Nat) (t : TypeId) (fr : Nat × Nat) : ∀ (l : List UInt8) (w : World) (off : Nat) (cur : List Value), w.heap[b]? = some (.cells cur.toArray t fr) → off + l.length ≤ cur.length → (laid w b off l).heap[b]? = some (.cells (splice cur off (bcells l)).toArray t fr)
  | [], w, off, cur, h, _ => by show w.heap[b]? = _; rw [h]; simp [bcells, splice]
  | c :: l, w, off, cur, h, hl => by
    simp only [List.length_cons] at hl
    show (laid (w.setCell ⟨b, off, none⟩ (.int .u8 (c.toNat : Int))) b (off + 1) l).heap[b]? = _
    have h1 : (w.setCell ⟨b, off, none⟩ (.int .u8 (c.toNat : Int))).heap[b]? = some (.cells (cur.set off (.int .u8 (c.toNat : Int))).toArray t fr) := by
      simp [World.setCell, Array.getElem?_modify, h]
    rw [laid_heap b t fr l _ (off + 1) _ h1 (by simp; omega), splice_set _ _ _ _ (by omega)]
    rfl
theorem own_of_heap {w : World} {base g t : Nat} {cs : List Value} {n : Nat} (hg : base ≤ g) (h : w.heap[g]? = some (.cells cs.toArray t (0, 0))) (hn : cs.length = n) (hm : n ≤ maxLen) : w.ownsRow base t 1 (.slice (some ⟨g, 0, none⟩) n n) n cs :=
  ⟨by omega, .inr ⟨g, n, cs.toArray, rfl, hg, h, Nat.le_refl _, hm, by simp [hn], by rw [Nat.mul_one, ← hn]; simp⟩⟩
theorem free_of_heap {w : World} {g t : Nat} {cs : List Value} (h : w.heap[g]? = some (.cells cs.toArray t (0, 0))) (off n : Nat) (hn : off + n ≤ cs.length) : Free w g off n := by
  intro j hj
  refine ⟨?_, ?_⟩
  · simp only [World.cell?, h]
    simp [show off + j < cs.length from by omega]
  · simp [World.frozen?, h]
theorem made_splice (l : List UInt8) (n : Nat) (bs : List UInt8) (hb : bs.length = n) (C : List Value) (hC : C.length = l.length + n) : splice (splice C 0 (bcells l)) l.length (bcells bs) = bcells (l ++ bs) := by
  have h1 : splice C 0 (bcells l) = bcells l ++ C.drop l.length := by simp [splice, bcells_length]
  rw [h1]
  unfold splice
  rw [List.take_append_of_le_length (by rw [bcells_length]; omega), List.take_of_length_le (by rw [bcells_length]; omega), bcells_length, List.drop_append, bcells_length]
  rw [List.drop_eq_nil_of_le (by rw [bcells_length]; omega), List.drop_drop, List.drop_eq_nil_of_le (by omega)]
  simp [bcells]
set_option maxHeartbeats 1000000 in
theorem append_yes {B : Nat} (a : Option Addr) (cap : Nat) (l : List UInt8) (n v : Nat) (w : World) (h : Byt w B (.slice a l.length cap) l) (hB : B ≤ w.heap.size) (hl : l.length ≤ 100000000) (n1 : 1 ≤ n) (n2 : n ≤ 8) (hv : v < 18446744073709551616) :
    Calls Tryd.prog 26 #[.slice a l.length cap, .int .i64 (n : Nat), .int .u64 (v : Nat)] w fun e w' => ∃ v', e = .returned v' ∧ w'.ownsRow w.heap.size 5 1 v' (l ++ byt n v).length (bcells (l ++ byt n v)) ∧ Below w.heap.size w w' := by
  obtain ⟨i0, hi, hz0, hz1, hz2⟩ := info_parts info_u8
  have HR := Lib.hid (fun W => right_any (n : Int) W)
  rw [rightW_true (by omega) (by omega)] at HR
  have HB := Lib.hid h
  have HV := Lib.hid hv
  clear h hv
  go_enter Tryd.func26, Tryd.ntmps26
  go_wp2_with fail
  refine (HR.out _).mono ?_
  rintro e w' ⟨rfl, rfl⟩
  go_wp2_with (at_make; refine wpList_make_full _ rfl _ _ 31 rfl w'.heap.size 5 i0 (.int .u8 0) 1 Tryd.underlying31 hi hz0 hz1 .i64 .i64 _ _ (l.length + n) rfl rfl ?m1 ?m2 ?m3 ?m4 (Nat.le_refl _) ?_)
  case m1 => omega
  case m2 => omega
  case m3 => rw [hz2]; omega
  case m4 => unfold maxLen; omega
  intro w1 hown hg
  obtain ⟨_, hown⟩ := hown
  rcases hown with ⟨hv, _⟩ | ⟨g, cap2, cur, hv, hgb, hh, _, _, hcs, _⟩
  · cases hv
  injection hv with hv1 _ hv2
  injection hv1 with hv1
  injection hv1 with hv1 _ _
  subst hv1 hv2
  obtain ⟨C⟩ := cur
  have hC : C.length = l.length + n := by simpa using hcs
  have hb1 : Below w'.heap.size w' w1 := gr_below0 hg
  have HH := Lib.hid hh
  have HB1 := Lib.hid hb1
  have HBY := Lib.hid (HB.out.below (hb1.mono hB))
  have hcp : 0 < (bcells l).length → some (⟨w'.heap.size, 0, none⟩ : Addr) = some ⟨w'.heap.size, 0, none⟩ ∧ ∃ ad, a = some ad ∧ ∀ j v, (bcells l)[j]? = some v → w1.cell? (ad.add j) = some v := by
    intro hpos
    refine ⟨rfl, ?_⟩
    cases ha : a with
    | none =>
      exfalso
      rcases HB.out with ⟨a', c', hv, rfl, _⟩ | ⟨b, off, c', hv, _⟩
      · simp [bcells] at hpos
      · rw [ha] at hv; injection hv with hv; cases hv
    | some ad =>
      have := HBY.out
      rw [ha] at this
      exact ⟨ad, rfl, this.news.2⟩
  have HCP := Lib.hid hcp
  clear hh hb1 hg hcp hcs hgb
  have hsl := fun W => slice_l (t := 31) (e := 5) (size := 1) rfl size_u8 (some ⟨w'.heap.size, 0, none⟩) (l.length + n) (l.length + n) (l.length : Int) (by omega) (by omega) W
  rw [Int.toNat_natCast, if_neg (by omega), show l.length + n - l.length = n from by omega] at hsl
  have hadd : Option.map (fun x => Addr.add x (l.length * 1)) (some (⟨w'.heap.size, 0, none⟩ : Addr)) = some ⟨w'.heap.size, l.length, none⟩ := by
    by_cases h0 : l.length = 0
    · simp [Addr.add, h0]
    · simp [Addr.add, h0]
  rw [hadd] at hsl
  clear hadd
  go_wp2_with (with_reducible refine wpList_copy_splice rfl _ _ 31 31 rfl 5 Tryd.underlying31 (by rw [hi]; simp [hz1]) _ _ _ _ _ _ rfl rfl w'.heap.size 0 C 5 HH.out (bcells l) ?k1 HCP.out ?k2 (bcells_one l) w'.heap.size w' HB1.out (Nat.le_refl _) ?_)
  case k1 => rw [bcells_length]
  case k2 => rw [bcells_length]; omega
  intro w2 HH2 hb2
  have HB2 := Lib.hid hb2
  clear hb2 HH HB1 HCP HBY
  have hlen : (splice C 0 (bcells l)).length = l.length + n := by rw [length_splice _ _ _ (by rw [bcells_length]; omega)]; exact hC
  have HLEN := Lib.hid hlen
  clear hlen
  go_wp2_with fail
  refine (encode_any w'.heap.size l.length n n v w2 n2 HV.out (free_of_heap HH2.out _ _ (by rw [HLEN.out]; omega))).mono ?_
  rintro e w3 ⟨rfl, hw3⟩
  have h3 := laid_heap w'.heap.size 5 (0, 0) (byt n v) w2 l.length _ HH2.out (by rw [HLEN.out, byt_length]; omega)
  rw [made_splice l n (byt n v) (byt_length n v) C hC, ← hw3] at h3
  have hl3 : (bcells (l ++ byt n v)).length = l.length + n := by rw [bcells_length, List.length_append, byt_length]
  have hown3 := own_of_heap (base := w'.heap.size) (Nat.le_refl _) h3 hl3 (by unfold maxLen; omega)
  have hb3 : Below w'.heap.size w' w3 := by
    obtain ⟨s1, s2, s3, s4⟩ := laid_size w'.heap.size (byt n v) w2 l.length
    rw [← hw3] at s1 s2 s3 s4
    exact ⟨s2.trans HB2.out.os, s3.trans HB2.out.tape, s4.trans HB2.out.output, by rw [s1]; exact HB2.out.size, fun k hk => by rw [hw3, laid_block _ _ (by omega)]; exact HB2.out.block k hk⟩
  have HO := Lib.hid hown3
  have HB3 := Lib.hid hb3
  clear h3 hl3 hown3 hb3 hw3
  go_wp2
  go_ret
  refine ⟨_, rfl, ?_, HB3.out⟩
  rw [List.length_append, byt_length]
  exact HO.out
theorem append_no {B : Nat} (a : Option Addr) (cap : Nat) (l : List UInt8) (n : Int) (v : Int) (w : World) (h : Byt w B (.slice a l.length cap) l) (hl : l.length ≤ 100000000) (hn : n < 1 ∨ 8 < n) :
    Calls Tryd.prog 26 #[.slice a l.length cap, .int .i64 n, .int .u64 v] w fun e w' => ∃ v', e = .returned v' ∧ w'.ownsRow w.heap.size 5 1 v' l.length (bcells l) ∧ Below w.heap.size w w' := by
  have HR := Lib.hid (fun W => right_any n W)
  rw [rightW_false hn] at HR
  have HC := Lib.hid (clone_any h hl)
  clear h hn
  go_enter Tryd.func26, Tryd.ntmps26
  go_wp2_with fail
  refine (HR.out _).mono ?_
  rintro e w' ⟨rfl, rfl⟩
  go_wp2_with fail
  refine HC.out.mono ?_
  rintro e w1 ⟨v', rfl, ho, hb⟩
  have HO := Lib.hid ho
  have HB := Lib.hid hb
  clear ho hb
  go_wp2
  go_ret
  exact ⟨_, rfl, HO.out, HB.out⟩
end Go.Proofs.YtcpojpgdjjmfbaaDoor
