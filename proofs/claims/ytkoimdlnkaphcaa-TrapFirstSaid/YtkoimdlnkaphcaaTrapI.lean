/- Contracts of trap.First over the closures of TrapFirst. -/
import Derived.Test.YtkoimdlnkaphcaaTrapE
namespace Go.Proofs.Ytkoimdlnkaphcaa
open Go.RowKit Plain
/-- What a step's function has: the error that it throws or returns; 0: none. -/
def err (x : St) : Int := if x.1 = 1 then 1 + low6 x.2 else if x.1 = 2 then low6 x.2 else 0
def fst : List St → Nat
  | [] => 0
  | x :: xs => if err x = 0 then fst xs + 1 else 0
theorem fst_le : ∀ l : List St, fst l ≤ l.length
  | [] => Nat.le_refl _
  | x :: xs => by
    have := fst_le xs
    unfold fst
    split <;> simp <;> omega
theorem fst_step {l : List St} {j : Nat} (h : j < l.length) : fst (l.drop j) = if err (l.getD j (0, 0)) = 0 then fst (l.drop (j + 1)) + 1 else 0 := by
  rw [drop_cons h]; rfl
/-- The first error. -/
def errAt (l : List St) : Int := if fst l < l.length then err (l.getD (fst l) (0, 0)) else 0
theorem errAt_at {l : List St} {j : Nat} {x : St} (h : fst l = j) (hj : j < l.length) (hx : l.getD j (0, 0) = x) : errAt l = err x := by
  unfold errAt; rw [h, if_pos hj, hx]
theorem errAt_none {l : List St} (h : fst l = l.length) : errAt l = 0 := by
  unfold errAt; rw [if_neg (by omega)]
/-- The ending of a step's function. -/
def stepEnd (x : St) : Ending := if x.1 = 1 then .panicked (fault (1 + low6 x.2)) else .returned (.int .i64 (if x.1 = 2 then low6 x.2 else 0))
theorem first1_any (p : Addr) (qb : Nat) (k c x : Int) (W : World) (hx0 : 0 ≤ x) (hx1 : x ≤ 1000) (hp : W.cell? p = some (.int .i64 x)) (hz : W.frozen? p = false) (q0 : W.cell? ⟨qb, 0, none⟩ = some (.int .i64 k)) (q1 : W.cell? ⟨qb, 1, none⟩ = some (.int .i64 c)) (hne : p.block ≠ qb) :
    Calls Try.prog 19 #[.pointer (some p), .pointer (some ⟨qb, 0, none⟩)] W fun e w' => e = stepEnd (k, c) ∧ w' = W.setCell p (.int .i64 (x + 1)) := by
  have hd : bits .and .i64 c 63 = low6 c := rfl
  have n0 : (W.setCell p (.int .i64 (x + 1))).cell? ⟨qb, 0, none⟩ = some (.int .i64 k) := by rw [World.cell?_setCell_other _ _ _ _ (fun e => hne (by rw [e]))]; exact q0
  have n1 : (W.setCell p (.int .i64 (x + 1))).cell? ⟨qb, 1, none⟩ = some (.int .i64 c) := by rw [World.cell?_setCell_other _ _ _ _ (fun e => hne (by rw [e]))]; exact q1
  by_cases h1 : k = 1
  · have b1 : (k == 1) = true := by simp [h1]
    have hfin : stepEnd (k, c) = .panicked (fault (1 + low6 c)) := by simp [stepEnd, h1]
    have HF := Lib.hid hfin
    clear hfin h1
    go_enter Try.func19, Try.ntmps19
    go_wp2_with fail
    refine (code_any c _).mono ?_
    rintro e w' ⟨rfl, rfl⟩
    go_wp2_with fail
    refine (throw_any _ _).mono ?_
    rintro e w' ⟨rfl, rfl⟩
    go_wp2
    exact ⟨rfl, HF.out.symm, rfl⟩
  · have b1 : (k == 1) = false := by simp [h1]
    by_cases h2 : k = 2
    · have b2 : (k == 2) = true := by simp [h2]
      have hfin : stepEnd (k, c) = .returned (.int .i64 (low6 c)) := by simp [stepEnd, h2]
      have HF := Lib.hid hfin
      clear hfin h1 h2
      go_enter Try.func19, Try.ntmps19
      go_wp2
      go_ret
      exact ⟨HF.out.symm, rfl⟩
    · have b2 : (k == 2) = false := by simp [h2]
      have hfin : stepEnd (k, c) = .returned (.int .i64 0) := by simp [stepEnd, h1, h2]
      have HF := Lib.hid hfin
      clear hfin h1 h2
      go_enter Try.func19, Try.ntmps19
      go_wp2
      go_ret
      exact ⟨HF.out.symm, rfl⟩
theorem cf_first1 (cap : Array Value) (w : World) : (callFunc 19 cap).run Try.prog w = .ok (.enter 19 cap) w := by kernel_rfl
theorem cf_firstC (cap : Array Value) (w : World) : (callFunc 34 cap).run Try.prog w = .ok (.enter 34 cap) w := by kernel_rfl
def thrown (x : St) : Int := if x.1 = 1 then 1 + low6 x.2 else 0
def given (x : St) : Int := if x.1 = 1 then 0 else if x.1 = 2 then low6 x.2 else 0
theorem stepEnd_cases (x : St) : (stepEnd x = .panicked (fault (thrown x)) ∧ given x = 0 ∧ thrown x = err x ∧ err x ≠ 0) ∨ (stepEnd x = .returned (.int .i64 (given x)) ∧ thrown x = 0 ∧ given x = err x) := by
  have := low6_bd x.2
  unfold stepEnd given thrown err
  by_cases h : x.1 = 1
  · simp only [h, if_true]
    exact .inl ⟨trivial, trivial, trivial, by omega⟩
  · simp only [h, if_false]
    exact .inr ⟨trivial, trivial, trivial⟩
/-- The closure that First hands to Catch. -/
theorem firstC_any (pf pr : Addr) (p : Addr) (qb : Nat) (k c x : Int) (W : World) (hf : W.cell? pf = some (.func (.func 19) #[] #[.pointer (some p), .pointer (some ⟨qb, 0, none⟩)])) (hr : W.cell? pr = some (.int .i64 0)) (hrz : W.frozen? pr = false)
    (hx0 : 0 ≤ x) (hx1 : x ≤ 1000) (hp : W.cell? p = some (.int .i64 x)) (hz : W.frozen? p = false) (q0 : W.cell? ⟨qb, 0, none⟩ = some (.int .i64 k)) (q1 : W.cell? ⟨qb, 1, none⟩ = some (.int .i64 c)) (hne : p.block ≠ qb) (hne2 : p ≠ pr) :
    Calls Try.prog 34 #[.pointer (some pf), .pointer (some pr)] W fun e w' => ((e = .returned (.tuple #[]) ∧ thrown (k, c) = 0) ∨ (e = .panicked (fault (thrown (k, c))) ∧ thrown (k, c) ≠ 0)) ∧
      w'.cell? pr = some (.int .i64 (given (k, c))) ∧ w'.cell? p = some (.int .i64 (x + 1)) ∧ w'.frozen? p = false ∧ (∀ b, b ≠ p.block → b ≠ pr.block → w'.heap[b]? = W.heap[b]?) ∧ w'.heap.size = W.heap.size ∧ w'.os = W.os ∧ w'.tape = W.tape ∧ w'.output = W.output := by
  have hmf := fun W => cf_first1 #[.pointer (some p), .pointer (some ⟨qb, 0, none⟩)] W
  have F1 := Lib.hid (first1_any p qb k c x W hx0 hx1 hp hz q0 q1 hne)
  have hr2 : (W.setCell p (.int .i64 (x + 1))).cell? pr = some (.int .i64 0) := by rw [World.cell?_setCell_other _ _ _ _ hne2]; exact hr
  have HPC := Lib.hid (World.cell?_setCell_same W p (.int .i64 (x + 1)) hp)
  go_enter Try.func34, Try.ntmps34
  go_wp2_with fail
  refine F1.out.mono ?_
  rintro e w' ⟨rfl, rfl⟩
  rcases stepEnd_cases (k, c) with ⟨h1, h2, h3, h4⟩ | ⟨h1, h2, h3⟩
  · rw [h1]
    simp only
    have H2 := Lib.hid h2
    have H4 := Lib.hid (h3 ▸ h4 : thrown (k, c) ≠ 0)
    clear h1 h2 h3 h4
    go_wp2
    refine ⟨rfl, .inr ⟨rfl, H4.out⟩, by rw [hr2, H2.out], HPC.out, by simpa using hz, fun b h1 _ => Below.heap_setCell _ _ _ _ h1, by simp [World.setCell], rfl, rfl, rfl⟩
  · rw [h1]
    simp only
    have H2 := Lib.hid h2
    clear h1 h2 h3
    go_wp2
    go_end0
    refine ⟨.inl ⟨rfl, H2.out⟩, World.cell?_setCell_same _ _ _ hr2, ?_, by simpa using hz, fun b h1 h2 => ?_, by simp [World.setCell], rfl, rfl, rfl⟩
    · rw [World.cell?_setCell_other _ _ _ _ (Ne.symm hne2)]; exact HPC.out
    · rw [Below.heap_setCell _ _ _ _ h2, Below.heap_setCell _ _ _ _ h1]
/-- A closure of TrapFirst, over the count's block and a step's. -/
def clo (cb g : Nat) : Value := .func (.func 19) #[] #[.pointer (some ⟨cb, 0, none⟩), .pointer (some ⟨g, 0, none⟩)]
/-- Steps lie in blocks of their own. -/
def Boxes (w : World) (cb : Nat) (gs : List Nat) (l : List St) : Prop :=
  gs.length = l.length ∧ ∀ j, j < l.length → gs.getD j 0 ≠ cb ∧ w.heap[gs.getD j 0]? = some (.cells #[.int .i64 (l.getD j (0, 0)).1, .int .i64 (l.getD j (0, 0)).2] 38 (0, 0))
theorem box_lt {w : World} {g : Nat} {o : Obj} (h : w.heap[g]? = some o) : g < w.heap.size := (Array.getElem?_eq_some_iff.1 h).1
theorem box_cells {w : World} {g : Nat} {x : St} (h : w.heap[g]? = some (.cells #[.int .i64 x.1, .int .i64 x.2] 38 (0, 0))) : w.cell? ⟨g, 0, none⟩ = some (.int .i64 x.1) ∧ w.cell? ⟨g, 1, none⟩ = some (.int .i64 x.2) := by
  simp [World.cell?, h]
theorem catchF (cb g fb : Nat) (k c x : Int) (w : World) (hcb : cb < w.heap.size) (hfb : fb < w.heap.size) (hx0 : 0 ≤ x) (hx1 : x ≤ 1000) (hne : cb ≠ g) (hne3 : cb ≠ fb + 1) (hf : w.cell? ⟨fb, 0, none⟩ = some (clo cb g)) (lr : fb + 1 < w.heap.size) (hr : w.cell? ⟨fb + 1, 0, none⟩ = some (.int .i64 0)) (hrz : w.frozen? ⟨fb + 1, 0, none⟩ = false)
    (hp : w.cell? ⟨cb, 0, none⟩ = some (.int .i64 x)) (hz : w.frozen? ⟨cb, 0, none⟩ = false) (hg : w.heap[g]? = some (.cells #[.int .i64 k, .int .i64 c] 38 (0, 0))) :
    Calls Try.prog 10 #[.func (.func 34) #[] #[.pointer (some ⟨fb, 0, none⟩), .pointer (some ⟨fb + 1, 0, none⟩)]] w fun e w' => e = .returned (.int .i64 (thrown (k, c))) ∧ w'.cell? ⟨fb + 1, 0, none⟩ = some (.int .i64 (given (k, c))) ∧ w'.cell? ⟨cb, 0, none⟩ = some (.int .i64 (x + 1)) ∧ w'.frozen? ⟨cb, 0, none⟩ = false ∧
      (∀ b, b < w.heap.size → b ≠ cb → b ≠ fb + 1 → w'.heap[b]? = w.heap[b]?) ∧ w.heap.size ≤ w'.heap.size ∧ w'.os = w.os ∧ w'.tape = w.tape ∧ w'.output = w.output := by
  generalize hO : Obj.cells #[.int .i64 0] 27 = O
  have hb : Below w.heap.size w (w.alloc O) := (Below.refl _ _).alloc (Nat.le_refl _) _
  have hsz : (w.alloc O).heap.size = w.heap.size + 1 := by simp
  have hlg := box_lt hg
  obtain ⟨q0, q1⟩ := box_cells (x := (k, c)) hg
  refine (catch_any 34 _ w _ (fun W => cf_firstC _ W) (by
    rw [hO]
    exact firstC_any ⟨fb, 0, none⟩ ⟨fb + 1, 0, none⟩ ⟨cb, 0, none⟩ g k c x (w.alloc O) ((hb.cell (p := ⟨fb, 0, none⟩) hfb).trans hf) ((hb.cell (p := ⟨fb + 1, 0, none⟩) lr).trans hr) ((hb.frozen (p := ⟨fb + 1, 0, none⟩) lr).trans hrz) hx0 hx1
      ((hb.cell (p := ⟨cb, 0, none⟩) hcb).trans hp) ((hb.frozen (p := ⟨cb, 0, none⟩) hcb).trans hz) ((hb.cell (p := ⟨g, 0, none⟩) hlg).trans q0) ((hb.cell (p := ⟨g, 1, none⟩) hlg).trans q1) hne (by simp only [ne_eq, Addr.mk.injEq]; omega)) ?_).mono ?_
  · rintro e w1 ⟨he, h1, h2, h3, h4, h5, h6, h7, h8⟩
    have hbk := h4 w.heap.size (by show w.heap.size ≠ cb; omega) (by show w.heap.size ≠ fb + 1; omega)
    refine ⟨?_, ?_, by omega, ?_⟩
    · rw [World.cell?_of_block (a := ⟨w.heap.size, 0, none⟩) hbk, ← hO]; simp
    · rw [World.frozen?_of_block (a := ⟨w.heap.size, 0, none⟩) hbk, ← hO]; simp
    · rcases he with ⟨he, _⟩ | ⟨he, _⟩
      · exact .inl he
      · exact .inr ⟨_, he⟩
  · rintro e w' ⟨e1, w1, ⟨he, h1, h2, h3, h4, h5, h6, h7, h8⟩, hgr, hc⟩
    have hs := hgr.size
    refine ⟨?_, ?_, ?_, ?_, ?_, by omega, hgr.os.trans h6, hgr.tape.trans h7, hgr.output.trans h8⟩
    · rcases he with ⟨rfl, ht⟩ | ⟨rfl, _⟩
      · rcases hc with ⟨_, rfl⟩ | ⟨c', hc', _⟩
        · rw [ht]
        · cases hc'
      · rcases hc with ⟨hc', _⟩ | ⟨c', hc', rfl⟩
        · cases hc'
        · rw [fault_inj (Ending.panicked.inj hc')]
    · rw [gr_cell hgr (p := ⟨fb + 1, 0, none⟩) (by show fb + 1 < _; omega) (by simp; omega)]; exact h1
    · rw [gr_cell hgr (p := ⟨cb, 0, none⟩) (by show cb < _; omega) (by simp; omega)]; exact h2
    · rw [gr_frozen hgr (p := ⟨cb, 0, none⟩) (by show cb < _; omega) (by simp; omega)]; exact h3
    · intro b hb' h9 h10
      rw [hgr.block b (by omega) (by simp; omega), h4 b h9 h10]
      exact hb.block b hb'
/-- The functions lie in a row. -/
def FRow (w : World) (b : Nat) (cb : Nat) (gs : List Nat) : Prop := ∀ j, j < gs.length → w.cell? ⟨b, j, none⟩ = some (clo cb (gs.getD j 0))
def FstRel (w : World) (l : List St) (cb : Nat) (iv : Value) (wr : World) : Prop :=
  ∃ j : Nat, j ≤ l.length ∧ iv = .int .i64 j ∧ wr.cell? ⟨cb, 0, none⟩ = some (.int .i64 j) ∧ wr.frozen? ⟨cb, 0, none⟩ = false ∧ w.grownBy wr (some cb) ∧ Hid (fst l = j + fst (l.drop j))
set_option maxHeartbeats 1000000 in
theorem first_any (cb rb cap : Nat) (gs : List Nat) (l : List St) (w : World) (hl : l.length ≤ 50) (hcb : cb < w.heap.size) (hrb : rb < w.heap.size) (hne : rb ≠ cb) (hbx : Boxes w cb gs l) (hfr : FRow w rb cb gs) (hc : w.cell? ⟨cb, 0, none⟩ = some (.int .i64 0)) (hz : w.frozen? ⟨cb, 0, none⟩ = false) :
    Calls Try.prog 22 #[.slice (some ⟨rb, 0, none⟩) l.length cap] w fun e w' => e = .returned (.tuple #[.int .i64 (fst l), .int .i64 (errAt l)]) ∧ w'.cell? ⟨cb, 0, none⟩ = some (.int .i64 (min (fst l + 1) l.length : Nat)) ∧ w.grownBy w' (some cb) := by
  have hmf : ∀ (fn : Fn) (first cap : Array Value) (w : World), (Instr.makeFunc fn first cap).run Try.prog w = .ok (.func fn first cap) w := fun _ _ _ _ => rfl
  have HC := Lib.hid hc
  have HZ := Lib.hid hz
  have HBX := Lib.hid hbx
  have HFR := Lib.hid hfr
  clear hc hz hbx hfr
  go_enter Try.func22, Try.ntmps22
  go_wp2
  go_loopw [10] (fun iv wr => FstRel w l cb iv wr) (fun iv _ => l.length - (intOf iv).toNat)
  case atStart => exact ⟨0, Nat.zero_le _, rfl, HC.out, HZ.out, only_refl _ _, by show _ = _; simp⟩
  case round =>
    obtain ⟨j, hj, rfl, hcn, hfn, hgr, hrel⟩ := hrel
    by_cases hlt : j < l.length
    · obtain ⟨hlen, hbx⟩ := HBX.out
      obtain ⟨hng, hgb⟩ := hbx j hlt
      have hcell := HFR.out j (by omega)
      rw [← gr_cell hgr (p := ⟨rb, j, none⟩) hrb (by simpa using hne)] at hcell
      have hlg := box_lt hgb
      rw [← hgr.block _ hlg (by simpa using hng)] at hgb
      have HGB := Lib.hid hgb
      have HST := Lib.hid (fst_step hlt)
      have hsz := hgr.size
      have HERR : Hid (l.getD j (0, 0) = l.getD j (0, 0)) := rfl
      generalize hx : l.getD j (0, 0) = x at *
      have HX := Lib.hid hx
      generalize gs.getD j 0 = g at *
      obtain ⟨kd, cd⟩ := x
      clear hx hgb hlen hbx HERR
      have hclo : clo cb g = .func (.func 19) #[] #[.pointer (some ⟨cb, 0, none⟩), .pointer (some ⟨g, 0, none⟩)] := rfl
      rw [hclo] at hcell
      clear hclo
      have hb2 : Below wr.heap.size wr ((wr.alloc (.cells #[.func (.func 19) #[] #[.pointer (some ⟨cb, 0, none⟩), .pointer (some ⟨g, 0, none⟩)]] 41)).alloc (.cells #[.int .i64 0] 27)) := ((Below.refl _ _).alloc (Nat.le_refl _) _).alloc (by simp) _
      have HB2 := Lib.hid hb2
      have HCN := Lib.hid hcn
      have HFN := Lib.hid hfn
      clear hb2 hcn hfn
      go_wp2_with fail
      refine (catchF cb g wr.heap.size kd cd j _ (by simp; omega) (by simp; omega) (by omega) (by omega) (Ne.symm hng) (by omega) (by simp [go_sem, clo]) (by simp) (by simp [go_sem]) (by simp [go_sem]) ((HB2.out.cell (p := ⟨cb, 0, none⟩) (by show cb < _; omega)).trans HCN.out) ((HB2.out.frozen (p := ⟨cb, 0, none⟩) (by show cb < _; omega)).trans HFN.out) ((HB2.out.block g (by omega)).trans HGB.out)).mono ?_
      rintro e w2 ⟨rfl, h1, h2, h3, h4, h5, h6, h7, h8⟩
      simp only [World.size_alloc] at h5
      have hgr2 : w.grownBy w2 (some cb) := by
        refine ⟨h6.trans (HB2.out.os.trans hgr.os), h7.trans (HB2.out.tape.trans hgr.tape), h8.trans (HB2.out.output.trans hgr.output), by omega, fun k hk hne => ?_⟩
        have hk2 : k ≠ cb := fun e => hne (by rw [e])
        rw [h4 k (by simp; omega) hk2 (by omega), HB2.out.block k (by omega)]
        exact hgr.block k hk hne
      have H2 := Lib.hid h2
      have H3 := Lib.hid h3
      have HG2 := Lib.hid hgr2
      clear h2 h3 h4 h6 h7 h8 hgr2 HB2 HCN HFN HGB hcell
      have hst := HST.out
      have hr2 := hrel.out
      have hxx := HX.out
      clear HST hrel HX
      rcases stepEnd_cases (kd, cd) with ⟨_, _, e3, e4⟩ | ⟨_, e2, e3⟩
      · have hz : (thrown (kd, cd) != 0) = true := by simp [e3, e4]
        rw [if_neg e4] at hst
        have hfin : fst l = j := by rw [hr2, hst]; rfl
        have HFIN := Lib.hid hfin
        have HXX := Lib.hid hxx
        have HE3 := Lib.hid e3
        clear hst hr2 hfin hxx e3 e4
        generalize thrown (kd, cd) = th at *
        go_wp2
        go_ret2
        refine ⟨?_, ?_, HG2.out⟩
        · rw [errAt_at HFIN.out hlt HXX.out, HFIN.out, ← HE3.out]; rfl
        · rw [H2.out, HFIN.out, Nat.min_eq_left (by omega)]; simp
      · rw [e3] at h1
        rw [e2]
        have z0 : ((0 : Int) != 0) = false := by simp
        by_cases he : err (kd, cd) = 0
        · have hz : (err (kd, cd) != 0) = false := by simp [he]
          rw [if_pos he] at hst
          have HR : Hid (fst l = j + 1 + fst (l.drop (j + 1))) := by show _ = _; rw [hr2, hst]; omega
          clear hst hr2 hxx e3 he e2
          generalize err (kd, cd) = th at *
          go_wp2
          go_roundw
          case rel => exact ⟨j + 1, by omega, by go_num, by rw [H2.out]; go_num, H3.out, HG2.out, HR⟩
          case measure => simp [intOf]; omega
        · have hz : (err (kd, cd) != 0) = true := by simp [he]
          rw [if_neg he] at hst
          have hfin : fst l = j := by rw [hr2, hst]; rfl
          have HFIN := Lib.hid hfin
          have HXX := Lib.hid hxx
          have HTH : Hid (err (kd, cd) = err (kd, cd)) := rfl
          clear hst hr2 hfin hxx e3 he e2
          generalize hth : err (kd, cd) = th at *
          have HTH2 := Lib.hid hth
          clear hth HTH
          go_wp2
          go_quiet (fail)
          go_wp2
          go_ret2
          refine ⟨?_, ?_, ?_⟩
          · rw [errAt_at HFIN.out hlt HXX.out, HFIN.out, HTH2.out]; rfl
          · rw [HFIN.out, Nat.min_eq_left (by omega)]; exact H2.out
          · exact ⟨HG2.out.os, HG2.out.tape, HG2.out.output, HG2.out.size, HG2.out.block⟩
    · go_wp2
      go_ret2
      have hr2 := hrel.out
      rw [List.drop_eq_nil_of_le (show l.length ≤ j by omega)] at hr2
      simp only [fst] at hr2
      have hfin : fst l = l.length := by omega
      refine ⟨?_, ?_, hgr⟩
      · rw [errAt_none hfin, hfin]; rfl
      · rw [hcn, hfin, Nat.min_eq_right (by omega), show j = l.length from by omega]
theorem first_nil (a : Option Addr) (cap : Nat) (w : World) :
    Calls Try.prog 22 #[.slice a 0 cap] w fun e w' => e = .returned (.tuple #[.int .i64 0, .int .i64 0]) ∧ w = w' := by
  go_enter Try.func22, Try.ntmps22
  go_wp2
  refine wp_loop_rounds 1 ?_
  rw [rounds_succ]
  go_wp2
  go_ret2
  exact ⟨rfl, rfl⟩
end Go.Proofs.Ytkoimdlnkaphcaa
