/- Contract of the page's Join. -/
import Derived.Test.YtjkmgakgjoojfaaDoorByt
import Derived.Laws.CopyOwn
import Derived.Laws.AppendOwnNone
namespace Go.Proofs.YtjkmgakgjoojfaaDoor
set_option linter.unusedVariables false
set_option linter.unusedSimpArgs false
open Go.RowKit
set_option maxHeartbeats 400000 in
theorem decode_any (b off cap : Nat) (l : List UInt8) (w : World) (hl : l.length ≤ 8) (hs : BytesAt w b off l) :
    Calls Tryd.prog 52 #[.slice (some ⟨b, off, none⟩) l.length cap] w fun e w' => e = .returned (.int .u64 (num l : Nat)) ∧ w' = w := by
  have HS := Lib.hid hs
  clear hs
  go_enter Tryd.func52, Tryd.ntmps52
  go_wp2
  go_loop [3, 8] (fun v i => ∃ j : Nat, j ≤ l.length ∧ i = .int .i64 j ∧ v = .int .u64 (num (l.take j) : Nat)) (fun _ i => l.length - (intOf i).toNat)
  case atStart => exact ⟨0, Nat.zero_le _, rfl, rfl⟩
  case round =>
    obtain ⟨j, hj, rfl, rfl⟩ := hrel
    by_cases hlt : j < l.length
    · have hc := HS.out j hlt
      have hcl := UInt8.toNat_lt (l.getD j 0)
      have HN := Lib.hid (or_step hl hlt)
      generalize l.getD j 0 = c at *
      go_wp2
      go_round
      case rel => exact ⟨j + 1, by omega, by go_num, by rw [HN.out]⟩
      case measure => simp [intOf]; omega
    · obtain rfl : j = l.length := by omega
      go_wp2
      go_ret
      exact ⟨rfl, rfl⟩
theorem decode_nil (a : Option Addr) (cap : Nat) (w : World) :
    Calls Tryd.prog 52 #[.slice a 0 cap] w fun e w' => e = .returned (.int .u64 0) ∧ w' = w := by
  go_enter Tryd.func52, Tryd.ntmps52
  go_wp2
  refine wp_loop_rounds 1 ?_
  rw [rounds_succ]
  go_wp2
  go_ret
  exact ⟨rfl, rfl⟩
def rightW (n : Int) : Bool := decide (1 ≤ n ∧ n ≤ 8)
theorem right_any (n : Int) (w : World) : Calls Tryd.prog 45 #[.int .i64 n] w fun e w' => e = .returned (.bool (rightW n)) ∧ w' = w := by
  by_cases h1 : 1 ≤ n
  · by_cases h2 : n ≤ 8
    · have H : Hid (rightW n = true) := by show _ = _; simp [rightW, h1, h2]
      go_enter Tryd.func45, Tryd.ntmps45
      go_wp2
      go_ret
      exact ⟨by rw [H.out]; simp, rfl⟩
    · have H : Hid (rightW n = false) := by show _ = _; simp [rightW, h2]
      have h3 : decide (n ≤ 8) = false := by simpa using h2
      go_enter Tryd.func45, Tryd.ntmps45
      go_wp2
      go_ret
      exact ⟨by rw [H.out]; simp, rfl⟩
  · have H : Hid (rightW n = false) := by show _ = _; simp [rightW, h1]
    have h3 : decide (1 ≤ n) = false := by simpa using h1
    go_enter Tryd.func45, Tryd.ntmps45
    go_wp2
    go_ret
    exact ⟨by rw [H.out]; simp, rfl⟩
/-- Cells that hold no bytes of a string. -/
def Free (w : World) (b off n : Nat) : Prop := ∀ j, j < n → (w.cell? ⟨b, off + j, none⟩).isSome = true ∧ w.frozen? ⟨b, off + j, none⟩ = false
/-- Bytes laid from an address on. -/
def laid (w : World) (b off : Nat) : List UInt8 → World
  | [] => w
  | c :: l => laid (w.setCell ⟨b, off, none⟩ (.int .u8 (c.toNat : Int))) b (off + 1) l
theorem laid_snoc (b : Nat) : ∀ (l : List UInt8) (w : World) (off : Nat) (c : UInt8), laid w b off (l ++ [c]) = (laid w b off l).setCell ⟨b, off + l.length, none⟩ (.int .u8 (c.toNat : Int))
  | [], w, off, c => rfl
  | x :: l, w, off, c => by
    show laid _ b (off + 1) (l ++ [c]) = _
    rw [laid_snoc b l, List.length_cons, show off + 1 + l.length = off + (l.length + 1) from by omega]
    rfl
theorem laid_frozen (b : Nat) (p : Addr) : ∀ (l : List UInt8) (w : World) (off : Nat), (laid w b off l).frozen? p = w.frozen? p
  | [], _, _ => rfl
  | x :: l, w, off => by
    show (laid _ b (off + 1) l).frozen? p = _
    rw [laid_frozen b p l]; simp
theorem laid_isSome (b : Nat) (p : Addr) : ∀ (l : List UInt8) (w : World) (off : Nat), (w.cell? p).isSome = true → ((laid w b off l).cell? p).isSome = true
  | [], _, _, h => h
  | x :: l, w, off, h => by
    refine laid_isSome b p l _ _ ?_
    obtain ⟨v, hv⟩ := Option.isSome_iff_exists.1 h
    obtain ⟨v', hv'⟩ := cell?_setCell_some (p := ⟨b, off, none⟩) (x := .int .u8 (x.toNat : Int)) hv
    rw [hv']; rfl
theorem laid_other (b : Nat) (p : Addr) : ∀ (l : List UInt8) (w : World) (off : Nat), (∀ j, j < l.length → p ≠ ⟨b, off + j, none⟩) → (laid w b off l).cell? p = w.cell? p
  | [], _, _, _ => rfl
  | x :: l, w, off, h => by
    show (laid _ b (off + 1) l).cell? p = _
    rw [laid_other b p l _ _ (fun j hj e => h (j + 1) (by simp; omega) (by rw [e]; congr 1; omega)), World.cell?_setCell_other _ _ _ _ (fun e => h 0 (by simp) (by rw [← e]; rfl))]
theorem laid_at (b : Nat) : ∀ (l : List UInt8) (w : World) (off : Nat), (∀ j, j < l.length → (w.cell? ⟨b, off + j, none⟩).isSome = true) → BytesAt (laid w b off l) b off l
  | [], _, _, _ => fun j hj => by simp at hj
  | x :: l, w, off, h => by
    intro j hj
    show (laid (w.setCell ⟨b, off, none⟩ (.int .u8 (x.toNat : Int))) b (off + 1) l).cell? _ = _
    have h0 := h 0 (by simp)
    obtain ⟨v0, hv0⟩ := Option.isSome_iff_exists.1 h0
    cases j with
    | zero =>
      rw [laid_other b _ l _ _ (fun i hi e => by simp only [Addr.mk.injEq] at e; omega)]
      exact World.cell?_setCell_same _ _ _ hv0
    | succ j =>
      have := laid_at b l (w.setCell ⟨b, off, none⟩ (.int .u8 (x.toNat : Int))) (off + 1) (fun i hi => by
        have h1 := h (i + 1) (by simp; omega)
        rw [show off + 1 + i = off + (i + 1) from by omega]
        rw [World.cell?_setCell_other _ _ _ _ (by simp)]
        exact h1) j (by simpa using hj)
      rw [show off + 1 + j = off + (j + 1) from by omega] at this
      rw [this]
      simp
theorem laid_block (b k : Nat) (hk : k ≠ b) : ∀ (l : List UInt8) (w : World) (off : Nat), (laid w b off l).heap[k]? = w.heap[k]?
  | [], _, _ => rfl
  | x :: l, w, off => by
    show (laid _ b (off + 1) l).heap[k]? = _
    rw [laid_block b k hk l, Below.heap_setCell _ _ _ _ hk]
theorem laid_size (b : Nat) : ∀ (l : List UInt8) (w : World) (off : Nat), (laid w b off l).heap.size = w.heap.size ∧ (laid w b off l).os = w.os ∧ (laid w b off l).tape = w.tape ∧ (laid w b off l).output = w.output
  | [], _, _ => ⟨rfl, rfl, rfl, rfl⟩
  | x :: l, w, off => by
    have := laid_size b l (w.setCell ⟨b, off, none⟩ (.int .u8 (x.toNat : Int))) (off + 1)
    simp only [World.setCell, Array.size_modify] at this
    exact this
theorem shr_byte (v j : Nat) : (v : Int) / 2 ^ (8 * j) % 256 = ((UInt8.ofNat (v / 256 ^ j)).toNat : Int) := by
  have e : (v : Int) / 2 ^ (8 * j) = ((v / 2 ^ (8 * j) : Nat) : Int) := by simp
  rw [UInt8.toNat_ofNat', pow256, e]
  have h1 : (2 : Nat) ^ 8 = 256 := by decide
  rw [h1]
  omega
theorem byt_take_succ {n v j : Nat} (h : j < n) : (byt n v).take (j + 1) = (byt n v).take j ++ [UInt8.ofNat (v / 256 ^ j)] := by
  have hl : j < (byt n v).length := by rw [byt_length]; exact h
  rw [List.take_succ_eq_append_getElem hl]
  have := byt_getD n v j h
  rw [List.getD_eq_getElem?_getD, List.getElem?_eq_getElem hl] at this
  rw [← this]; rfl
set_option maxHeartbeats 400000 in
theorem encode_any (b off n cap v : Nat) (w : World) (hn : n ≤ 8) (hv : v < 18446744073709551616) (hf : Free w b off n) :
    Calls Tryd.prog 46 #[.slice (some ⟨b, off, none⟩) n cap, .int .u64 (v : Nat)] w fun e w' => e = .returned (.tuple #[]) ∧ w' = laid w b off (byt n v) := by
  have HF := Lib.hid hf
  have HV := Lib.hid hv
  clear hf hv
  go_enter Tryd.func46, Tryd.ntmps46
  go_wp2
  go_loopw [4, 7] (fun _ i wr => ∃ j : Nat, j ≤ n ∧ i = .int .i64 j ∧ Hid (wr = laid w b off ((byt n v).take j))) (fun _ i _ => n - (intOf i).toNat)
  case atStart => exact ⟨0, Nat.zero_le _, rfl, rfl⟩
  case round =>
    obtain ⟨j, hj, rfl, hw⟩ := hrel
    by_cases hlt : j < n
    · have h1 : (wr.cell? ⟨b, off + j, none⟩).isSome = true := by rw [hw.out]; exact laid_isSome _ _ _ _ _ (HF.out j hlt).1
      have h2 : wr.frozen? ⟨b, off + j, none⟩ = false := by rw [hw.out, laid_frozen]; exact (HF.out j hlt).2
      obtain ⟨u, hu⟩ := Option.isSome_iff_exists.1 h1
      clear h1
      go_wp2
      go_roundw
      case rel =>
        refine ⟨j + 1, by omega, by go_num, ?_⟩
        show _ = _
        rw [byt_take_succ hlt, laid_snoc, List.length_take, byt_length, Nat.min_eq_left (by omega), ← hw.out, shr_byte]
      case measure => simp [intOf]; omega
    · obtain rfl : j = n := by omega
      go_wp2
      go_end0
      refine ⟨rfl, ?_⟩
      have h1 := hw.out
      rw [List.take_of_length_le (by rw [byt_length]; omega)] at h1
      exact h1
end Go.Proofs.YtjkmgakgjoojfaaDoor
namespace Go.Proofs.YtjkmgakgjoojfaaDoor
set_option linter.unusedVariables false
set_option linter.unusedSimpArgs false
open Go.RowKit
theorem rightW_true {n : Int} (h1 : 1 ≤ n) (h2 : n ≤ 8) : rightW n = true := by simp [rightW, h1, h2]
theorem rightW_false {n : Int} (h : n < 1 ∨ 8 < n) : rightW n = false := by simp [rightW]; omega
theorem rightW_elim {n : Int} (h : rightW n = true) : 1 ≤ n ∧ n ≤ 8 := by simpa [rightW] using h
theorem rightW_elim_no {n : Int} (h : rightW n = false) : n < 1 ∨ 8 < n := by simp [rightW] at h; omega
def existsB (len : Nat) (at_ n : Int) : Bool := rightW n && decide (0 ≤ at_) && decide (at_ ≤ (len : Int) - n)
def fitsB (v : Nat) (n : Int) : Bool := rightW n && decide (v < 256 ^ n.toNat)
end Go.Proofs.YtjkmgakgjoojfaaDoor
namespace Go.Proofs.YtjkmgakgjoojfaaDoor
set_option maxRecDepth 100000
set_option linter.unusedVariables false
set_option linter.unusedSimpArgs false
open Go.RowKit
theorem decode_B {w : World} {B : Nat} {v : Value} {l : List UInt8} (h : Byt w B v l) (hl : l.length ≤ 8) :
    Calls Tryd.prog 52 #[v] w fun e w' => e = .returned (.int .u64 (num l : Nat)) ∧ w' = w := by
  rcases h with ⟨a, cap, rfl, rfl, _⟩ | ⟨b, off, cap, rfl, hc, hb, hs⟩
  · exact decode_nil a cap w
  · exact decode_any b off cap l w hl hs
theorem existsB_elim {len : Nat} {p n : Int} (h : existsB len p n = true) : 1 ≤ n ∧ n ≤ 8 ∧ 0 ≤ p ∧ p + n ≤ len := by
  simp only [existsB, Bool.and_eq_true, decide_eq_true_eq] at h
  have := rightW_elim h.1.1
  omega
theorem info_u8 : (Tryd.prog.info? 5).map (fun i => (i.zero, i.size, i.bytes)) = some (some (.int .u8 0), 1, 1) := by kernel_rfl
theorem size_u8 (W : World) : (sizeOf 5).run Tryd.prog W = .ok 1 W := by kernel_rfl
/-- Bytes' cells. -/
def bcells (l : List UInt8) : List Value := l.map fun c => .int .u8 (c.toNat : Int)
theorem bcells_length (l : List UInt8) : (bcells l).length = l.length := List.length_map _
theorem bcells_one (l : List UInt8) : ∀ u ∈ bcells l, u.oneCell' = true := by
  intro u hu
  obtain ⟨c, _, rfl⟩ := List.mem_map.1 hu
  rfl
theorem Byt.of_own {w : World} {base : Nat} {v : Value} {l : List UInt8} (h : w.ownsRow base 5 1 v l.length (bcells l)) : Byt w w.heap.size v l := by
  obtain ⟨_, h⟩ := h
  rcases h with ⟨rfl, h0⟩ | ⟨g, cap, cur, rfl, hg, hh, hnc, _, hcs, htk⟩
  · exact .inl ⟨none, 0, rfl, List.length_eq_zero_iff.1 h0, fun _ => rfl⟩
  · refine .inr ⟨g, 0, cap, rfl, hnc, (Array.getElem?_eq_some_iff.1 hh).1, fun j hj => ?_⟩
    have h1 : (cur.toList.take (l.length * 1))[j]? = some (.int .u8 ((l.getD j 0).toNat : Int)) := by
      rw [htk]; simp [bcells, hj]
    rw [List.getElem?_take] at h1
    split at h1
    · simp only [World.cell?, hh]
      simpa using h1
    · cases h1
/-- Where bytes come from when they are appended. -/
theorem Byt.news {w : World} {B : Nat} {a : Addr} {n cap : Nat} {l : List UInt8} (h : Byt w B (.slice (some a) n cap) l) : n = l.length ∧ ∀ j u, (bcells l)[j]? = some u → w.cell? (a.add j) = some u := by
  rcases h with ⟨a', cap', hv, rfl, _⟩ | ⟨b, off, cap', hv, _, _, hs⟩
  · injection hv with _ hn _
    exact ⟨hn, fun j u hj => by simp [bcells] at hj⟩
  · injection hv with ha hn _
    injection ha with ha
    subst ha
    refine ⟨hn, fun j u hj => ?_⟩
    have hj' : j < l.length := by
      have := (List.getElem?_eq_some_iff.1 hj).1
      rwa [bcells_length] at this
    have hplain : (⟨b, off, none⟩ : Addr).add j = ⟨b, off + j, none⟩ := by unfold Addr.add; split <;> simp_all
    rw [hplain, hs j hj']
    simp only [bcells, List.getElem?_map, List.getElem?_eq_getElem hj', Option.map_some, Option.some.injEq] at hj
    rw [← hj]
    simp [hj']
set_option maxHeartbeats 400000 in
theorem clone_any {w : World} {B : Nat} {v : Value} {l : List UInt8} (h : Byt w B v l) (hl : l.length ≤ 100000000) :
    Calls Tryd.prog 33 #[v] w fun e w' => ∃ v', e = .returned v' ∧ w'.ownsRow w.heap.size 5 1 v' l.length (bcells l) ∧ Below w.heap.size w w' := by
  obtain ⟨i0, hi, hz0, hz1, hz2⟩ := info_parts info_u8
  obtain ⟨a, cap, rfl⟩ := h.slice
  have heq := fun W => Lib.run_eql_slice_nil (P := Tryd.prog) W 33 5 a l.length cap 0 0 rfl
  cases a with
  | none =>
    have hl0 : l = [] := by
      rcases h with ⟨a', cap', hv, rfl, _⟩ | ⟨b, off, cap', hv, _⟩
      · rfl
      · injection hv with ha; cases ha
    subst hl0
    clear h
    simp only [List.length_nil] at heq
    go_enter Tryd.func33, Tryd.ntmps33
    go_wp2
    go_ret
    exact ⟨_, rfl, World.ownsRow_nil _ _ _ _, Below.refl _ _⟩
  | some a =>
    obtain ⟨_, hnews⟩ := h.news
    have hlt : l ≠ [] → a.block < w.heap.size := by
      intro hne
      have := hnews 0 ((bcells l).getD 0 (.int .u8 0)) (by cases l with | nil => exact absurd rfl hne | cons x xs => rfl)
      rw [show a.add 0 = a from rfl] at this
      exact World.block_lt_of_cell? w _ this
    have HN := Lib.hid hnews
    have HLT := Lib.hid hlt
    clear hnews hlt h
    go_enter Tryd.func33, Tryd.ntmps33
    go_wp2_with (at_builtin; refine wpList_append_own _ rfl _ _ 33 rfl w.heap.size 5 i0 (.int .u8 0) 1 1 Tryd.underlying33 hi hz0 hz1 hz2 rfl (by decide) _ 0 [] rfl ?c0 a l.length cap (bcells l) rfl ?c2 ?c1 (bcells_one l) ?c3 ?c4 ?c5 ?_)
    case c0 => exact ⟨rfl, .inr ⟨w.heap.size, 0, #[], rfl, Nat.le_refl _, heap_alloc_new _ _, Nat.le_refl _, Nat.zero_le _, rfl, rfl⟩⟩
    case c2 => rw [bcells_length]
    case c1 =>
      intro j u hj
      have hne : l ≠ [] := by rintro rfl; simp [bcells] at hj
      have hb : Below w.heap.size w (w.alloc (.cells #[] 5)) := (Below.refl _ _).alloc (Nat.le_refl _) _
      rw [hb.cell (p := a.add j) (by unfold Addr.add; split <;> exact HLT.out hne)]
      exact HN.out j u hj
    case c3 => unfold maxLen; omega
    case c4 => omega
    intro v' w1 hown hgrow _
    have HB : Hid (Below w.heap.size w w1) := Below.grown ((Below.refl _ _).alloc (Nat.le_refl _) _) hgrow (by simp) (by simp [Value.ownBlock])
    clear hgrow
    go_wp2
    go_ret
    exact ⟨_, rfl, hown, HB.out⟩
end Go.Proofs.YtjkmgakgjoojfaaDoor
namespace Go.Proofs.YtjkmgakgjoojfaaDoor
set_option maxRecDepth 100000
set_option linter.unusedVariables false
set_option linter.unusedSimpArgs false
open Go.RowKit
theorem gr_below0 {a b : World} (h : a.grownBy b none) : Below a.heap.size a b :=
  ⟨h.os, h.tape, h.output, h.size, fun k hk => h.block k hk (by simp)⟩
theorem splice_nil (cur : List Value) (off : Nat) : splice cur off [] = cur := by simp [splice]
theorem splice_set (cur : List Value) (off : Nat) (x : Value) (xs : List Value) (h : off < cur.length) : splice (cur.set off x) (off + 1) xs = splice cur off (x :: xs) := by
  unfold splice
  rw [List.take_set, List.drop_set]
  rw [if_pos (by omega)]
  rw [List.length_cons, show off + (xs.length + 1) = off + 1 + xs.length from by omega]
  have h1 : (cur.take (off + 1)).set off x = cur.take off ++ [x] := by
    rw [List.take_succ_eq_append_getElem h]
    rw [List.set_append_right _ _ (by simp; omega)]
    simp [List.length_take, Nat.min_eq_left (show off ≤ cur.length by omega)]
  rw [h1]
  simp
theorem laid_heap (b : Nat) (t : TypeId) (fr : Nat × Nat) : ∀ (l : List UInt8) (w : World) (off : Nat) (cur : List Value), w.heap[b]? = some (.cells cur.toArray t fr) → off + l.length ≤ cur.length → (laid w b off l).heap[b]? = some (.cells (splice cur off (bcells l)).toArray t fr)
  | [], w, off, cur, h, _ => by show w.heap[b]? = _; rw [h]; simp [bcells, splice]
  | c :: l, w, off, cur, h, hl => by
    simp only [List.length_cons] at hl
    show (laid (w.setCell ⟨b, off, none⟩ (.int .u8 (c.toNat : Int))) b (off + 1) l).heap[b]? = _
    have h1 : (w.setCell ⟨b, off, none⟩ (.int .u8 (c.toNat : Int))).heap[b]? = some (.cells (cur.set off (.int .u8 (c.toNat : Int))).toArray t fr) := by
      simp [World.setCell, Array.getElem?_modify, h]
    rw [laid_heap b t fr l _ (off + 1) _ h1 (by simp; omega), splice_set _ _ _ _ (by omega)]
    rfl
theorem own_of_heap {w : World} {base g t : Nat} {cs : List Value} {n : Nat} (hg : base ≤ g) (h : w.heap[g]? = some (.cells cs.toArray t (0, 0))) (hn : cs.length = n) (hm : n ≤ maxLen) : w.ownsRow base t 1 (.slice (some ⟨g, 0, none⟩) n n) n cs :=
  ⟨by omega, .inr ⟨g, n, cs.toArray, rfl, hg, h, Nat.le_refl _, hm, by simp [hn], by rw [Nat.mul_one, ← hn]; simp⟩⟩
theorem free_of_heap {w : World} {g t : Nat} {cs : List Value} (h : w.heap[g]? = some (.cells cs.toArray t (0, 0))) (off n : Nat) (hn : off + n ≤ cs.length) : Free w g off n := by
  intro j hj
  refine ⟨?_, ?_⟩
  · simp only [World.cell?, h]
    simp [show off + j < cs.length from by omega]
  · simp [World.frozen?, h]
theorem made_splice (l : List UInt8) (n : Nat) (bs : List UInt8) (hb : bs.length = n) (C : List Value) (hC : C.length = l.length + n) : splice (splice C 0 (bcells l)) l.length (bcells bs) = bcells (l ++ bs) := by
  have h1 : splice C 0 (bcells l) = bcells l ++ C.drop l.length := by simp [splice, bcells_length]
  rw [h1]
  unfold splice
  rw [List.take_append_of_le_length (by rw [bcells_length]; omega), List.take_of_length_le (by rw [bcells_length]; omega), bcells_length, List.drop_append, bcells_length]
  rw [List.drop_eq_nil_of_le (by rw [bcells_length]; omega), List.drop_drop, List.drop_eq_nil_of_le (by omega)]
  simp [bcells]
set_option maxHeartbeats 1000000 in
theorem append_yes {B : Nat} (a : Option Addr) (cap : Nat) (l : List UInt8) (n v : Nat) (w : World) (h : Byt w B (.slice a l.length cap) l) (hB : B ≤ w.heap.size) (hl : l.length ≤ 100000000) (n1 : 1 ≤ n) (n2 : n ≤ 8) (hv : v < 18446744073709551616) :
    Calls Tryd.prog 21 #[.slice a l.length cap, .int .i64 (n : Nat), .int .u64 (v : Nat)] w fun e w' => ∃ v', e = .returned v' ∧ w'.ownsRow w.heap.size 5 1 v' (l ++ byt n v).length (bcells (l ++ byt n v)) ∧ Below w.heap.size w w' := by
  obtain ⟨i0, hi, hz0, hz1, hz2⟩ := info_parts info_u8
  have HR := Lib.hid (fun W => right_any (n : Int) W)
  rw [rightW_true (by omega) (by omega)] at HR
  have HB := Lib.hid h
  have HV := Lib.hid hv
  clear h hv
  go_enter Tryd.func21, Tryd.ntmps21
  go_wp2_with fail
  refine (HR.out _).mono ?_
  rintro e w' ⟨rfl, rfl⟩
  go_wp2_with (at_make; refine wpList_make_full _ rfl _ _ 33 rfl w'.heap.size 5 i0 (.int .u8 0) 1 Tryd.underlying33 hi hz0 hz1 .i64 .i64 _ _ (l.length + n) rfl rfl ?m1 ?m2 ?m3 ?m4 (Nat.le_refl _) ?_)
  case m1 => omega
  case m2 => omega
  case m3 => rw [hz2]; omega
  case m4 => unfold maxLen; omega
  intro w1 hown hg
  obtain ⟨_, hown⟩ := hown
  rcases hown with ⟨hv, _⟩ | ⟨g, cap2, cur, hv, hgb, hh, _, _, hcs, _⟩
  · cases hv
  injection hv with hv1 _ hv2
  injection hv1 with hv1
  injection hv1 with hv1 _ _
  subst hv1 hv2
  obtain ⟨C⟩ := cur
  have hC : C.length = l.length + n := by simpa using hcs
  have hb1 : Below w'.heap.size w' w1 := gr_below0 hg
  have HH := Lib.hid hh
  have HB1 := Lib.hid hb1
  have HBY := Lib.hid (HB.out.below (hb1.mono hB))
  have hcp : 0 < (bcells l).length → some (⟨w'.heap.size, 0, none⟩ : Addr) = some ⟨w'.heap.size, 0, none⟩ ∧ ∃ ad, a = some ad ∧ ∀ j v, (bcells l)[j]? = some v → w1.cell? (ad.add j) = some v := by
    intro hpos
    refine ⟨rfl, ?_⟩
    cases ha : a with
    | none =>
      exfalso
      rcases HB.out with ⟨a', c', hv, rfl, _⟩ | ⟨b, off, c', hv, _⟩
      · simp [bcells] at hpos
      · rw [ha] at hv; injection hv with hv; cases hv
    | some ad =>
      have := HBY.out
      rw [ha] at this
      exact ⟨ad, rfl, this.news.2⟩
  have HCP := Lib.hid hcp
  clear hh hb1 hg hcp hcs hgb
  have hsl := fun W => slice_l (t := 33) (e := 5) (size := 1) rfl size_u8 (some ⟨w'.heap.size, 0, none⟩) (l.length + n) (l.length + n) (l.length : Int) (by omega) (by omega) W
  rw [Int.toNat_natCast, if_neg (by omega), show l.length + n - l.length = n from by omega] at hsl
  have hadd : Option.map (fun x => Addr.add x (l.length * 1)) (some (⟨w'.heap.size, 0, none⟩ : Addr)) = some ⟨w'.heap.size, l.length, none⟩ := by
    by_cases h0 : l.length = 0
    · simp [Addr.add, h0]
    · simp [Addr.add, h0]
  rw [hadd] at hsl
  clear hadd
  go_wp2_with (with_reducible refine wpList_copy_splice rfl _ _ 33 33 rfl 5 Tryd.underlying33 (by rw [hi]; simp [hz1]) _ _ _ _ _ _ rfl rfl w'.heap.size 0 C 5 HH.out (bcells l) ?k1 HCP.out ?k2 (bcells_one l) w'.heap.size w' HB1.out (Nat.le_refl _) ?_)
  case k1 => rw [bcells_length]
  case k2 => rw [bcells_length]; omega
  intro w2 HH2 hb2
  have HB2 := Lib.hid hb2
  clear hb2 HH HB1 HCP HBY
  have hlen : (splice C 0 (bcells l)).length = l.length + n := by rw [length_splice _ _ _ (by rw [bcells_length]; omega)]; exact hC
  have HLEN := Lib.hid hlen
  clear hlen
  go_wp2_with fail
  refine (encode_any w'.heap.size l.length n n v w2 n2 HV.out (free_of_heap HH2.out _ _ (by rw [HLEN.out]; omega))).mono ?_
  rintro e w3 ⟨rfl, hw3⟩
  have h3 := laid_heap w'.heap.size 5 (0, 0) (byt n v) w2 l.length _ HH2.out (by rw [HLEN.out, byt_length]; omega)
  rw [made_splice l n (byt n v) (byt_length n v) C hC, ← hw3] at h3
  have hl3 : (bcells (l ++ byt n v)).length = l.length + n := by rw [bcells_length, List.length_append, byt_length]
  have hown3 := own_of_heap (base := w'.heap.size) (Nat.le_refl _) h3 hl3 (by unfold maxLen; omega)
  have hb3 : Below w'.heap.size w' w3 := by
    obtain ⟨s1, s2, s3, s4⟩ := laid_size w'.heap.size (byt n v) w2 l.length
    rw [← hw3] at s1 s2 s3 s4
    exact ⟨s2.trans HB2.out.os, s3.trans HB2.out.tape, s4.trans HB2.out.output, by rw [s1]; exact HB2.out.size, fun k hk => by rw [hw3, laid_block _ _ (by omega)]; exact HB2.out.block k hk⟩
  have HO := Lib.hid hown3
  have HB3 := Lib.hid hb3
  clear h3 hl3 hown3 hb3 hw3
  go_wp2
  go_ret
  refine ⟨_, rfl, ?_, HB3.out⟩
  rw [List.length_append, byt_length]
  exact HO.out
theorem append_no {B : Nat} (a : Option Addr) (cap : Nat) (l : List UInt8) (n : Int) (v : Int) (w : World) (h : Byt w B (.slice a l.length cap) l) (hl : l.length ≤ 100000000) (hn : n < 1 ∨ 8 < n) :
    Calls Tryd.prog 21 #[.slice a l.length cap, .int .i64 n, .int .u64 v] w fun e w' => ∃ v', e = .returned v' ∧ w'.ownsRow w.heap.size 5 1 v' l.length (bcells l) ∧ Below w.heap.size w w' := by
  have HR := Lib.hid (fun W => right_any n W)
  rw [rightW_false hn] at HR
  have HC := Lib.hid (clone_any h hl)
  clear h hn
  go_enter Tryd.func21, Tryd.ntmps21
  go_wp2_with fail
  refine (HR.out _).mono ?_
  rintro e w' ⟨rfl, rfl⟩
  go_wp2_with fail
  refine HC.out.mono ?_
  rintro e w1 ⟨v', rfl, ho, hb⟩
  have HO := Lib.hid ho
  have HB := Lib.hid hb
  clear ho hb
  go_wp2
  go_ret
  exact ⟨_, rfl, HO.out, HB.out⟩
end Go.Proofs.YtjkmgakgjoojfaaDoor
namespace Go.Proofs.YtjkmgakgjoojfaaDoor
set_option maxRecDepth 100000
set_option linter.unusedVariables false
set_option linter.unusedSimpArgs false
open Go.RowKit
/-- Bytes with others at a place. -/
def putAt (l : List UInt8) (p : Nat) (bs : List UInt8) : List UInt8 := l.take p ++ (bs ++ l.drop (p + bs.length))
theorem putAt_length (l : List UInt8) (p : Nat) (bs : List UInt8) (h : p + bs.length ≤ l.length) : (putAt l p bs).length = l.length := by
  simp [putAt]; omega
theorem bcells_splice (l : List UInt8) (p : Nat) (bs : List UInt8) : splice (bcells l) p (bcells bs) = bcells (putAt l p bs) := by
  simp [splice, bcells, putAt, List.map_take, List.map_drop]
theorem splice_take (C cs : List Value) (p n : Nat) (h1 : p + cs.length ≤ n) (h2 : n ≤ C.length) : (splice C p cs).take n = splice (C.take n) p cs := by
  unfold splice
  have e1 : (C.take p).length = p := by rw [List.length_take]; omega
  have e2 : (C.take n).take p = C.take p := by rw [List.take_take, Nat.min_eq_left (by omega)]
  have e3 : (C.take p).take n = C.take p := List.take_of_length_le (by omega)
  have e4 : cs.take (n - p) = cs := List.take_of_length_le (by omega)
  rw [List.take_append, e1, e3, List.take_append, e4, e2, List.drop_take]
  congr 3
  omega
end Go.Proofs.YtjkmgakgjoojfaaDoor
namespace Go.Proofs.YtjkmgakgjoojfaaDoor
set_option maxRecDepth 100000
set_option linter.unusedVariables false
set_option linter.unusedSimpArgs false
open Go.RowKit
theorem bcells_append (l m : List UInt8) : bcells (l ++ m) = bcells l ++ bcells m := List.map_append
set_option maxHeartbeats 400000 in
theorem refBytes_any (v n : Nat) (w : World) (hn : n ≤ 8) (hv : v < 18446744073709551616) :
    Calls Tryd.prog 49 #[.int .u64 (v : Nat), .int .i64 (n : Nat)] w fun e w' => ∃ v', e = .returned v' ∧ w'.ownsRow w.heap.size 5 1 v' n (bcells (byt n v)) ∧ Below w.heap.size w w' := by
  obtain ⟨i0, hi, hz0, hz1, hz2⟩ := info_parts info_u8
  have HV := Lib.hid hv
  clear hv
  go_enter Tryd.func49, Tryd.ntmps49
  go_wp2
  go_loopw [0, 5, 6] (fun x o i wr => ∃ j : Nat, j ≤ n ∧ i = .int .i64 j ∧ x = .int .u64 ((v / 256 ^ j : Nat) : Int) ∧ wr.ownsRow w.heap.size 5 1 o j (bcells ((byt n v).take j)) ∧ Below w.heap.size w wr) (fun _ _ i _ => n - (intOf i).toNat)
  case atStart => exact ⟨0, Nat.zero_le _, rfl, by simp, World.ownsRow_nil _ _ _ _, Below.refl _ _⟩
  case round =>
    obtain ⟨j, hj, rfl, rfl, hown, hbel⟩ := hrel
    by_cases hlt : j < n
    · have hx : v / 256 ^ j < 18446744073709551616 := Nat.lt_of_le_of_lt (Nat.div_le_self _ _) HV.out
      have e1 : (((v / 256 ^ j : Nat) : Int)) % 256 = ((UInt8.ofNat (v / 256 ^ j)).toNat : Int) := by
        rw [UInt8.toNat_ofNat']
        have h1 : (2 : Nat) ^ 8 = 256 := by decide
        rw [h1]; omega
      have e2 : v / 256 ^ (j + 1) = v / 256 ^ j / 256 := by rw [Nat.pow_succ, Nat.div_div_eq_div_mul]
      have HT := Lib.hid (byt_take_succ (v := v) hlt)
      have E1 := Lib.hid e1
      have E2 := Lib.hid e2
      clear e1 e2
      have hx0 : (0 : Int) ≤ ((v / 256 ^ j : Nat) : Int) := Int.natCast_nonneg _
      generalize v / 256 ^ j = x at *
      have hsz := hbel.size
      go_wp2_with (at_builtin; refine wpList_append_own _ rfl _ _ 33 rfl w.heap.size 5 i0 (.int .u8 0) 1 1 Tryd.underlying33 hi hz0 hz1 hz2 rfl (by decide) _ _ _ rfl (hown.alloc _) ⟨wr.heap.size, 0, none⟩ 1 1 [.int .u8 ((UInt8.ofNat x).toNat : Int)] rfl rfl ?c1 ?c2 ?c3 ?c4 ?c5 ?_)
      case c1 =>
        intro k u hk
        match k, hk with
        | 0, hk => simp at hk; subst hk; rw [E1.out]; simp [Addr.add]
      case c2 => intro u hu; simp at hu; subst hu; rfl
      case c3 => unfold maxLen; omega
      case c4 => omega
      case c5 => simp; omega
      intro v' w1 hown' hgrow _
      have hb1 : Below w.heap.size w w1 := Below.grown (hbel.alloc hsz _) hgrow (by simp; omega) (fun k hk => (hown.lt k hk).1)
      have HB1 := Lib.hid hb1
      clear hb1 hgrow hown hbel
      rw [E1.out] at hown'
      go_wp2
      go_roundw
      case rel =>
        refine ⟨j + 1, by omega, by go_num, ?_, ?_, HB1.out⟩
        · rw [E2.out]; congr 1
        · rw [HT.out, bcells_append]; exact hown'
      case measure => simp [intOf]; omega
    · obtain rfl : j = n := by omega
      go_wp2
      go_ret
      refine ⟨_, rfl, ?_, hbel⟩
      rw [List.take_of_length_le (by rw [byt_length]; omega)] at hown
      exact hown
set_option maxHeartbeats 400000 in
theorem refNumber_any (b off cap : Nat) (l : List UInt8) (w : World) (hl : l.length ≤ 8) (hs : BytesAt w b off l) :
    Calls Tryd.prog 32 #[.slice (some ⟨b, off, none⟩) l.length cap] w fun e w' => e = .returned (.int .u64 (num l : Nat)) ∧ w' = w := by
  have HS := Lib.hid hs
  clear hs
  go_enter Tryd.func32, Tryd.ntmps32
  go_wp2
  go_loop [3, 4] (fun v i => ∃ j : Nat, j ≤ l.length ∧ i = .int .i64 ((j : Int) - 1) ∧ v = .int .u64 (num (l.drop j) : Nat)) (fun _ i => (intOf i + 1).toNat)
  case atStart => exact ⟨l.length, Nat.le_refl _, rfl, by simp [num]⟩
  case round =>
    obtain ⟨j, hj, rfl, rfl⟩ := hrel
    by_cases hlt : 0 < j
    · obtain ⟨i, rfl⟩ : ∃ i, j = i + 1 := ⟨j - 1, by omega⟩
      have hc := HS.out i (by omega)
      have hcl := UInt8.toNat_lt (l.getD i 0)
      have hn : num (l.drop i) = (l.getD i 0).toNat + 256 * num (l.drop (i + 1)) := by
        rw [List.drop_eq_getElem_cons (show i < l.length by omega)]
        simp [num, show i < l.length from by omega]
      have hb := num_lt64 (l := l.drop i) (by rw [List.length_drop]; omega)
      rw [hn] at hb
      have HN := Lib.hid hn
      clear hn
      rw [show ((i + 1 : Nat) : Int) - 1 = (i : Int) from by omega]
      generalize l.getD i 0 = c at *
      generalize num (l.drop (i + 1)) = y at *
      go_wp2
      go_round
      case rel => exact ⟨i, by omega, rfl, by rw [HN.out]; congr 1; omega⟩
      case measure => simp [intOf]
    · obtain rfl : j = 0 := by omega
      rw [List.drop_zero, show ((0 : Nat) : Int) - 1 = -1 from rfl]
      go_wp2
      go_ret
      exact ⟨rfl, rfl⟩
theorem refNumber_nil (a : Option Addr) (cap : Nat) (w : World) :
    Calls Tryd.prog 32 #[.slice a 0 cap] w fun e w' => e = .returned (.int .u64 0) ∧ w' = w := by
  go_enter Tryd.func32, Tryd.ntmps32
  go_wp2
  refine wp_loop_rounds 1 ?_
  rw [rounds_succ]
  go_wp2
  go_ret
  exact ⟨rfl, rfl⟩
theorem refNumber_B {w : World} {B : Nat} {v : Value} {l : List UInt8} (h : Byt w B v l) (hl : l.length ≤ 8) :
    Calls Tryd.prog 32 #[v] w fun e w' => e = .returned (.int .u64 (num l : Nat)) ∧ w' = w := by
  rcases h with ⟨a, cap, rfl, rfl, _⟩ | ⟨b, off, cap, rfl, hc, hb, hs⟩
  · exact refNumber_nil a cap w
  · exact refNumber_any b off cap l w hl hs
end Go.Proofs.YtjkmgakgjoojfaaDoor
namespace Go.Proofs.YtjkmgakgjoojfaaDoor
set_option maxRecDepth 100000
set_option linter.unusedVariables false
set_option linter.unusedSimpArgs false
open Go.RowKit
/-- append of bytes, nil or not, to a row of the call's own. -/
theorem append_B {w : World} {ops : Array Oper} {rest : List Oper} {o : Oper} {a : Act} {Q : Exit → Act → World → Prop} (hgd : o.guard = none) (s x : Operand)
    (ho : o.op = .call { callee := .builtin .append, args := #[s, x], argTypes := #[33, 33] }) (base : Nat) (v : Value) (n : Nat) (xs : List Value) (hs : a.eval s = v) (hown : w.ownsRow base 5 1 v n xs)
    {B : Nat} {u : Value} {l : List UInt8} (hx : a.eval x = u) (hB : Byt w B u l) (hn : n + l.length ≤ 1000000000000) (hbase : base ≤ w.heap.size)
    (h : ∀ v' w', w'.ownsRow base 5 1 v' (n + l.length) (xs ++ bcells l) → w.grownBy w' v.ownBlock → wpList Tryd.prog ops Q rest (a.put o.dst v') w') : wpList Tryd.prog ops Q (o :: rest) a w := by
  obtain ⟨i0, hi, hz0, hz1, hz2⟩ := info_parts info_u8
  obtain ⟨au, cap, rfl⟩ := hB.slice
  cases au with
  | none =>
    have hl0 : l = [] ∧ cap = 0 := by
      rcases hB with ⟨a', cap', hv, rfl, hc⟩ | ⟨b, off, cap', hv, _⟩
      · injection hv with h1 _ h2
        subst h1 h2
        exact ⟨rfl, hc rfl⟩
      · injection hv with ha; cases ha
    obtain ⟨rfl, rfl⟩ := hl0
    refine wpList_append_own_none hgd s x 33 ho base 5 i0 1 Tryd.underlying33 hi v n xs hs hown hx ?_
    refine h v w ?_ ⟨rfl, rfl, rfl, Nat.le_refl _, fun _ _ _ => rfl⟩
    simpa [bcells] using hown
  | some ad =>
    refine wpList_append_own _ hgd s x 33 ho base 5 i0 (.int .u8 0) 1 1 Tryd.underlying33 hi hz0 hz1 hz2 rfl (by decide) v n xs hs hown ad l.length cap (bcells l) hx (by rw [bcells_length]; omega) hB.news.2 (bcells_one l) (by unfold maxLen; omega) (by omega) hbase ?_
    intro v' w' h1 h2 _
    exact h v' w' h1 h2
end Go.Proofs.YtjkmgakgjoojfaaDoor
