/- linear.isTrue. -/
import Derived.Test.YtmcbgjkogggneaaDoorLkC
namespace Go.Proofs.YtmcbgjkogggneaaDoor
set_option maxRecDepth 100000
set_option linter.unusedVariables false
set_option linter.unusedSimpArgs false
open Go.RowKit
/-- The names, and whether all was true, behind the first ones of an order. -/
def st (cv : Nat → CallV) (nm : Nat → List ByteArray) (o : Nat → Nat) : Nat → List ByteArray × Bool
  | 0 => ([], true)
  | i + 1 => ((tells (st cv nm o i).1 (cv (o i)) (nm (o i))).1, (st cv nm o i).2 && (tells (st cv nm o i).1 (cv (o i)) (nm (o i))).2)
theorem tells_len (l : List ByteArray) (c : CallV) (ns : List ByteArray) : (tells l c ns).1.length ≤ l.length + 1 := by
  unfold tells
  repeat' split
  all_goals simp
theorem st_len (cv : Nat → CallV) (nm : Nat → List ByteArray) (o : Nat → Nat) : ∀ i, (st cv nm o i).1.length ≤ i
  | 0 => Nat.le_refl _
  | i + 1 => by
    have := st_len cv nm o i
    have := tells_len (st cv nm o i).1 (cv (o i)) (nm (o i))
    show (tells (st cv nm o i).1 (cv (o i)) (nm (o i))).1.length ≤ i + 1
    omega
theorem st_false (cv : Nat → CallV) (nm : Nat → List ByteArray) (o : Nat → Nat) {i : Nat} (h : (st cv nm o i).2 = false) : ∀ j, i ≤ j → (st cv nm o j).2 = false := by
  intro j hj
  induction j with
  | zero => obtain rfl : i = 0 := by omega
            exact h
  | succ j ih =>
    by_cases e : i = j + 1
    · subst e; exact h
    · show ((st cv nm o j).2 && _) = false
      rw [ih (by omega)]
      rfl
/-- Calls in memory, with their names' lists. -/
structure CallsAt (w : World) (B n : Nat) (v : Value) (cv : Nat → CallV) (nm : Nat → List ByteArray) : Prop where
  sl : Sl w B 6 v n (ccells n cv)
  name : ∀ k, k < n → (cv k).name.size ≤ maxLen
  len : ∀ k, k < n → (nm k).length = (cv k).nn
  names : ∀ k, k < n → Sl w B 1 (.slice (cv k).na (cv k).nn (cv k).nc) (cv k).nn (scells (nm k))
  few : ∀ k, k < n → (nm k).length ≤ 20
theorem CallsAt.below {w w' : World} {B n : Nat} {v : Value} {cv : Nat → CallV} {nm : Nat → List ByteArray} (h : CallsAt w B n v cv nm) (hb : Below B w w') : CallsAt w' B n v cv nm :=
  ⟨h.sl.below hb, h.name, h.len, fun k hk => (h.names k hk).below hb, h.few⟩
theorem call_cells {w : World} {B n cap b off : Nat} {cv : Nat → CallV} (h : Sl w B 6 (.slice (some ⟨b, off, none⟩) n cap) n (ccells n cv)) {k : Nat} (hk : k < n) :
    w.cell? ⟨b, off + k * 6, none⟩ = some (.int .i64 (cv k).kind) ∧ w.cell? ⟨b, off + k * 6 + 1, none⟩ = some (.string (cv k).name) ∧ w.cell? ⟨b, off + k * 6 + 2, none⟩ = some (.bool (cv k).told) ∧ w.cell? ⟨b, off + k * 6 + 3, none⟩ = some (.slice (cv k).na (cv k).nn (cv k).nc) ∧ w.cell? ⟨b, off + k * 6 + 4, none⟩ = some (.int .i64 (cv k).beg) ∧ w.cell? ⟨b, off + k * 6 + 5, none⟩ = some (.int .i64 (cv k).fin) := by
  have hc := fun (q : Nat) (hq : q < 6) (u : Value) (hu : (cv k).cells[q]? = some u) => sl_same h (by omega) (k * 6 + q) u ((ccells_get cv hk q hq).trans hu)
  have c0 := hc 0 (by omega) _ rfl
  have c1 := hc 1 (by omega) _ rfl
  have c2 := hc 2 (by omega) _ rfl
  have c3 := hc 3 (by omega) _ rfl
  have c4 := hc 4 (by omega) _ rfl
  have c5 := hc 5 (by omega) _ rfl
  rw [Nat.add_zero] at c0
  rw [← Nat.add_assoc] at c1 c2 c3 c4 c5
  exact ⟨c0, c1, c2, c3, c4, c5⟩
set_option maxHeartbeats 4000000 in
theorem isTrue_any (n m : Nat) (cv : Nat → CallV) (nm : Nat → List ByteArray) (o : Nat → Nat) (v u : Value) (B : Nat) (w : World) (h : CallsAt w B n v cv nm) (hu : Sl w B 1 u m (icells m o)) (hB : B ≤ w.heap.size) (ho : ∀ i, i < m → o i < n) (hn : n ≤ 20) (hm : m ≤ 30) :
    Calls Tryd.prog 23 #[v, u] w fun e w' => e = .returned (.bool (st cv nm o m).2) ∧ Below w.heap.size w w' := by
  obtain ⟨a, cap, rfl, hcap⟩ := h.sl.form
  obtain ⟨a2, cap2, rfl, hcap2⟩ := hu.form
  have HC := Lib.hid (fun (W : World) (hW : Below w.heap.size w W) => h.below (hW.mono hB))
  have HU := Lib.hid (fun (W : World) (hW : Below w.heap.size w W) => hu.below (hW.mono hB))
  have HO := Lib.hid ho
  clear h hu ho
  go_enter Tryd.func23, Tryd.ntmps23
  go_wp2_with (fail)
  refine (newModel_any w).mono ?_
  rintro e w1 ⟨mb, mm, rfl, hom, hmp, hmb, h1, h2, h3, hb1⟩
  have HMA : Hid (ModelAt w1 mb mm w1.heap.size []) := Lib.hid ⟨h3, hmb, Nat.le_refl _, _, _, 0, hom, Row.nil, hmp, Nat.le_refl _, fun s _ => rfl⟩
  have HB1 := Lib.hid hb1
  have hz1 := hb1.size
  generalize hbase : w1.heap.size = base at HMA
  clear hom hmp hb1 hbase hmb
  go_wp2_with (fail)
  go_loopw [11] (fun i wr => ∃ j : Nat, i = .int .i64 j ∧ j ≤ m ∧ Hid ((st cv nm o j).2 = true) ∧ Hid (ModelAt wr mb mm base (st cv nm o j).1) ∧ Hid (Below w.heap.size w wr)) (fun i _ => m - (intOf i).toNat)
  case atStart => exact ⟨0, rfl, Nat.zero_le _, Lib.hid rfl, HMA, HB1⟩
  case round =>
    obtain ⟨j, rfl, hj, HT, HM, HB2⟩ := hrel
    obtain ⟨wo, rfl⟩ : ∃ z : World, z = wr := ⟨_, rfl⟩
    by_cases hlt : j < m
    rotate_left
    · have d1 : decide (j < m) = false := decide_eq_false hlt
      have d2 : decide ((j : Int) < (m : Int)) = false := decide_eq_false (by omega)
      obtain rfl : j = m := by omega
      go_wp2_with (fail)
      go_ret
      exact ⟨by rw [HT.out]; rfl, HB2.out⟩
    have d1 : decide (j < m) = true := decide_eq_true hlt
    have d2 : decide ((j : Int) < (m : Int)) = true := decide_eq_true (by omega)
    have q1 : IntKind.i64.wrap ((j : Int) + 1) = (j : Int) + 1 := IntWalk.i64_in _ (by omega)
    have hbi : (j : Int) < (m : Int) := by omega
    have hoj := HO.out j hlt
    obtain ⟨b1, o1, rfl, hk1⟩ := sl_cells (HU.out wo HB2.out) (by omega)
    have k1 : wo.cell? ⟨b1, o1 + j, none⟩ = some (.int .i64 (o j : Nat)) := hk1 j _ (icells_get o hlt)
    obtain ⟨b, off, rfl, hk0⟩ := sl_cells (HC.out wo HB2.out).sl (by omega)
    have HCC := HC.out wo HB2.out
    obtain ⟨c0, c1, c2, c3, c4, c5⟩ := call_cells HCC.sl hoj
    have hl := st_len cv nm o j
    have hz2 : B ≤ wo.heap.size := Nat.le_trans hB HB2.out.size
    have HDO := Lib.hid (do_any mb mm base (st cv nm o j).1 (nm (o j)) (cv (o j)) wo HM.out (by omega) (HCC.name _ hoj) (HCC.len _ hoj) B hz2 (HCC.names _ hoj) (by have := HCC.few _ hoj; omega))
    have hst : (st cv nm o (j + 1)) = ((tells (st cv nm o j).1 (cv (o j)) (nm (o j))).1, (st cv nm o j).2 && (tells (st cv nm o j).1 (cv (o j)) (nm (o j))).2) := rfl
    have HST := Lib.hid hst
    unfold Do_p at HDO
    unfold CallV.agg at HDO
    have hoi : (o j : Int) < (n : Int) := by omega
    clear hk1 hk0 HCC hl hst
    go_wp2_with (fail)
    refine HDO.out.mono ?_
    rintro e w2 ⟨rfl, hm2, hb2, _⟩
    have HB3 := Lib.hid (HB2.out.trans (hb2.mono (by omega)))
    have HM3 := Lib.hid hm2
    clear hm2 hb2 HDO c0 c1 c2 c3 c4 c5 k1
    cases hok : (tells (st cv nm o j).1 (cv (o j)) (nm (o j))).2 with
    | true =>
      have HT2 : Hid ((st cv nm o (j + 1)).2 = true) := Lib.hid (by rw [HST.out, HT.out, hok]; rfl)
      have HM4 : Hid (ModelAt w2 mb mm base (st cv nm o (j + 1)).1) := Lib.hid (by rw [HST.out]; exact HM3.out)
      clear hok
      go_wp2_with (fail)
      go_roundw
      case rel => exact ⟨j + 1, rfl, by omega, HT2, HM4, HB3⟩
      case measure => simp [intOf] <;> omega
    | false =>
      have HF : Hid ((st cv nm o m).2 = false) := Lib.hid (st_false cv nm o (i := j + 1) (by rw [HST.out, hok]; simp) m hlt)
      clear hok
      go_wp2_with (fail)
      go_ret
      exact ⟨by rw [HF.out]; rfl, HB3.out⟩
end Go.Proofs.YtmcbgjkogggneaaDoor
