/- Cost, Right, Holes. -/
import Derived.Test.YtfnaoekkdgndkaaCpJ
namespace Go.Proofs.Ytfnaoekkdgndkaa
set_option maxRecDepth 100000
set_option linter.unusedVariables false
set_option linter.unusedSimpArgs false
open Go.RowKit
theorem mv_cells {w : World} {B cap b off n : Nat} {l : List Mv} (h : Sl w B 3 (.slice (some ⟨b, off, none⟩) n cap) n (lc mvC l)) {j : Nat} {x : Mv} (hn : n = l.length) (hj : l[j]? = some x) :
    w.cell? ⟨b, off + j * 3, none⟩ = some (.int .i64 (x.f : Nat)) ∧ w.cell? ⟨b, off + j * 3 + 1, none⟩ = some (.int .i64 (x.t : Nat)) ∧ w.cell? ⟨b, off + j * 3 + 2, none⟩ = some (.int .i64 (x.l : Nat)) := by
  have hl : j < l.length := (List.getElem?_eq_some_iff.1 hj).1
  have hc := sl_same h (by omega)
  exact ⟨hc (j * 3 + 0) _ (lc_get mvC_len hj (by omega)), hc (j * 3 + 1) _ (lc_get mvC_len hj (by omega)), hc (j * 3 + 2) _ (lc_get mvC_len hj (by omega))⟩
/-- How many bytes moves move. -/
def costL (l : List Mv) : Nat := (l.map (·.l)).sum
theorem costL_snoc (l : List Mv) (m : Mv) : costL (l ++ [m]) = costL l + m.l := by unfold costL; simp
theorem costL_bd (l : List Mv) (h : ∀ m ∈ l, m.l ≤ 1099511627776) : costL l ≤ l.length * 1099511627776 := by
  induction l using snoc_rec with
  | h0 => exact Nat.zero_le _
  | h1 l m ih =>
    have h1 := ih fun q hq => h q (List.mem_append_left _ hq)
    have h2 := h m (by simp)
    rw [costL_snoc, List.length_append]
    simp
    omega
set_option maxHeartbeats 4000000 in
theorem cost_any (l : List Mv) (v : Value) (w : World) (h : Sl w w.heap.size 3 v l.length (lc mvC l)) (hn : l.length ≤ 1000) (hb : ∀ m ∈ l, m.l ≤ 1099511627776) :
    Calls Try.prog 10 #[v] w fun e w' => e = .returned (.int .i64 (costL l : Nat)) ∧ Below w.heap.size w w' := by
  obtain ⟨a, cap, rfl, hcap⟩ := h.form
  have HS := Lib.hid (fun (W : World) (hW : Below w.heap.size w W) => h.below hW)
  have HBD := Lib.hid hb
  obtain ⟨n, hn0⟩ : ∃ z, l.length = z := ⟨_, rfl⟩
  rw [hn0] at HS hcap hn ⊢
  have HN0 := Lib.hid hn0
  clear h hb hn0
  go_enter Try.func10, Try.ntmps10
  go_wp2_with (fail)
  go_loopw [3, 8] (fun s i wr => ∃ (j : Nat), i = .int .i64 j ∧ j ≤ n ∧ s = .int .i64 (costL (l.take j) : Nat) ∧ Hid (Below w.heap.size w wr)) (fun _ i _ => n - (intOf i).toNat)
  case atStart => exact ⟨0, rfl, Nat.zero_le _, rfl, Lib.hid (Below.refl _ _)⟩
  case round =>
    obtain ⟨j, rfl, hj, rfl, HB⟩ := hrel
    obtain ⟨wo, rfl⟩ : ∃ z : World, z = wr := ⟨_, rfl⟩
    by_cases hlt : j < n
    rotate_left
    · have d1 : decide (j < n) = false := decide_eq_false hlt
      have d2 : decide ((j : Int) < (n : Int)) = false := decide_eq_false (by omega)
      obtain rfl : j = n := by omega
      go_wp2_with (fail)
      go_ret
      exact ⟨by rw [List.take_of_length_le (by rw [HN0.out]; exact Nat.le_refl _)]; rfl, HB.out⟩
    have d1 : decide (j < n) = true := decide_eq_true hlt
    have d2 : decide ((j : Int) < (n : Int)) = true := decide_eq_true (by omega)
    have q1 : IntKind.i64.wrap ((j : Int) + 1) = (j : Int) + 1 := IntWalk.i64_in _ (by omega)
    have hbi : (j : Int) < (n : Int) := by omega
    obtain ⟨b, off, rfl, hk0⟩ := sl_cells (HS.out wo HB.out) (by omega)
    clear hk0
    obtain ⟨x, hx⟩ : ∃ x, l[j]? = some x := ⟨_, List.getElem?_eq_getElem (by rw [HN0.out]; exact hlt)⟩
    have hxb := HBD.out x (List.mem_of_getElem? hx)
    obtain ⟨k0, k1, k2⟩ := mv_cells (HS.out wo HB.out) HN0.out.symm hx
    have hcs : costL (l.take (j + 1)) = costL (l.take j) + x.l := by rw [List.take_add_one, hx]; exact costL_snoc _ _
    have hcb : costL (l.take j) ≤ 1099511627776000 := by
      have h1 := costL_bd (l.take j) fun m hm => HBD.out m (List.mem_of_mem_take hm)
      have h2 : (l.take j).length ≤ 1000 := by rw [List.length_take]; omega
      generalize (l.take j).length = q at *
      omega
    obtain ⟨f, t, m⟩ := x
    simp only at k0 k1 k2 hxb hcs
    have HCS := Lib.hid hcs
    clear hcs hx
    generalize costL (l.take j) = C at *
    have q2 : IntKind.i64.wrap ((C : Int) + (m : Int)) = ((C + m : Nat) : Int) := by rw [IntWalk.i64_in _ (by omega)]; omega
    have HX := Lib.hid (HB.out.alloc HB.out.size (.cells #[.int .i64 (f : Nat), .int .i64 (t : Nat), .int .i64 (m : Nat)] 38))
    go_wp2_with (fail)
    go_roundw
    case rel => exact ⟨j + 1, rfl, hlt, by rw [HCS.out]; exact congrArg (Value.int .i64) (by omega), HX⟩
    case measure => simp [intOf] <;> omega
/-- Any move, in whole numbers. -/
structure MvI where
  f : Int
  t : Int
  l : Int
def mvI (m : MvI) : List Value := [.int .i64 m.f, .int .i64 m.t, .int .i64 m.l]
theorem mvI_len (m : MvI) : (mvI m).length = 3 := rfl
def atM (l : List MvI) (k : Nat) : MvI := l.getD k ⟨0, 0, 0⟩
theorem atM_get {l : List MvI} {j : Nat} (h : j < l.length) : l[j]? = some (atM l j) := by
  unfold atM
  rw [List.getD_eq_getElem?_getD, List.getElem?_eq_getElem h]
  rfl
theorem mi_cells {w : World} {B cap b off n : Nat} {l : List MvI} (h : Sl w B 3 (.slice (some ⟨b, off, none⟩) n cap) n (lc mvI l)) {j : Nat} (hn : n = l.length) (hj : j < n) :
    w.cell? ⟨b, off + j * 3, none⟩ = some (.int .i64 (atM l j).f) ∧ w.cell? ⟨b, off + j * 3 + 1, none⟩ = some (.int .i64 (atM l j).t) ∧ w.cell? ⟨b, off + j * 3 + 2, none⟩ = some (.int .i64 (atM l j).l) := by
  have hc := sl_same h (by omega)
  have hg := atM_get (l := l) (j := j) (by omega)
  exact ⟨hc (j * 3 + 0) _ (lc_get mvI_len hg (by omega)), hc (j * 3 + 1) _ (lc_get mvI_len hg (by omega)), hc (j * 3 + 2) _ (lc_get mvI_len hg (by omega))⟩
def OkM (m : MvI) : Prop := 1 ≤ m.l ∧ 0 ≤ m.t ∧ m.t < m.f
def StM (y x : MvI) : Prop := y.l ≤ x.t - y.t ∧ y.l ≤ x.f - y.f
/-- The first moves are right. -/
def RightP (l : List MvI) (k : Nat) : Prop := ∀ i, i < k → OkM (atM l i) ∧ (i = 0 ∨ StM (atM l (i - 1)) (atM l i))
theorem RightP.zero (l : List MvI) : RightP l 0 := fun i hi => by omega
theorem RightP.step {l : List MvI} {k : Nat} (h : RightP l k) (h1 : OkM (atM l k)) (h2 : k = 0 ∨ StM (atM l (k - 1)) (atM l k)) : RightP l (k + 1) := fun i hi => by
  by_cases e : i = k
  · subst e; exact ⟨h1, h2⟩
  · exact h i (by omega)
def SmM (l : List MvI) (n : Nat) : Prop := ∀ i, i < n → (atM l i).f ≤ 1099511627776 ∧ (atM l i).t ≤ 1099511627776 ∧ (atM l i).l ≤ 1099511627776
def Right_p (l : List MvI) (n : Nat) (w : World) (e : Ending) (w' : World) : Prop := ∃ b, e = .returned (.bool b) ∧ (b = true ↔ RightP l n) ∧ Below w.heap.size w w'
theorem Right_p.no {l : List MvI} {n k : Nat} {w w' : World} (hk : k < n) (h : ¬ (OkM (atM l k) ∧ (k = 0 ∨ StM (atM l (k - 1)) (atM l k)))) (hb : Below w.heap.size w w') : Right_p l n w (.returned (.bool false)) w' :=
  ⟨false, rfl, ⟨(fun h => by cases h), fun hr => absurd (hr k hk) h⟩, hb⟩
set_option maxHeartbeats 8000000 in
theorem right_any (l : List MvI) (n : Nat) (v : Value) (B : Nat) (w : World) (h : Sl w B 3 v n (lc mvI l)) (hB : B ≤ w.heap.size) (hn0 : n = l.length) (hn : n ≤ 1000) (hsm : SmM l n) :
    Calls Try.prog 14 #[v] w (Right_p l n w) := by
  obtain ⟨a, cap, rfl, hcap⟩ := h.form
  have HS := Lib.hid (fun (W : World) (hW : Below w.heap.size w W) => h.below (hW.mono hB))
  have HSM := Lib.hid hsm
  have HN0 := Lib.hid hn0
  clear h hsm hn0
  go_enter Try.func14, Try.ntmps14
  go_wp2_with (fail)
  go_loopw [8] (fun i wr => ∃ (j : Nat), i = .int .i64 j ∧ j ≤ n ∧ Hid (RightP l j) ∧ Hid (Below w.heap.size w wr)) (fun i _ => n - (intOf i).toNat)
  case atStart => exact ⟨0, rfl, Nat.zero_le _, Lib.hid (.zero l), Lib.hid (Below.refl _ _)⟩
  case round =>
    obtain ⟨j, rfl, hj, HR, HB⟩ := hrel
    obtain ⟨wo, rfl⟩ : ∃ z : World, z = wr := ⟨_, rfl⟩
    by_cases hlt : j < n
    rotate_left
    · have d1 : decide (j < n) = false := decide_eq_false hlt
      have d2 : decide ((j : Int) < (n : Int)) = false := decide_eq_false (by omega)
      obtain rfl : j = n := by omega
      go_wp2_with (fail)
      go_ret
      exact ⟨true, by rfl, ⟨fun _ => HR.out, fun _ => rfl⟩, HB.out⟩
    have d1 : decide (j < n) = true := decide_eq_true hlt
    have d2 : decide ((j : Int) < (n : Int)) = true := decide_eq_true (by omega)
    have q1 : IntKind.i64.wrap ((j : Int) + 1) = (j : Int) + 1 := IntWalk.i64_in _ (by omega)
    have hbi : (j : Int) < (n : Int) := by omega
    obtain ⟨b, off, rfl, _⟩ := sl_cells (HS.out wo HB.out) (by omega)
    obtain ⟨k0, k1, k2⟩ := mi_cells (HS.out wo HB.out) HN0.out hlt
    have hs := HSM.out j hlt
    have HST := Lib.hid (fun (h1 : OkM (atM l j)) (h2 : j = 0 ∨ StM (atM l (j - 1)) (atM l j)) => HR.out.step h1 h2)
    have HNO := Lib.hid (fun (W : World) (hb : Below w.heap.size w W) (h : ¬ (OkM (atM l j) ∧ (j = 0 ∨ StM (atM l (j - 1)) (atM l j)))) => Right_p.no (n := n) hlt h hb)
    have HPV : Hid (∀ p, j = p + 1 → OkM (atM l p) ∧ (atM l p).f ≤ 1099511627776 ∧ ∀ W, Below w.heap.size w W → W.cell? ⟨b, off + p * 3, none⟩ = some (.int .i64 (atM l p).f) ∧ W.cell? ⟨b, off + p * 3 + 1, none⟩ = some (.int .i64 (atM l p).t) ∧ W.cell? ⟨b, off + p * 3 + 2, none⟩ = some (.int .i64 (atM l p).l)) := Lib.hid (fun p hp => by
      subst hp
      exact ⟨(HR.out p (by omega)).1, (HSM.out p (by omega)).1, fun W hW => mi_cells (HS.out W hW) HN0.out (by omega)⟩)
    generalize hm : atM l j = m at *
    obtain ⟨f, t, g⟩ := m
    clear hm
    simp only [OkM] at k0 k1 k2 hs HST HNO
    obtain ⟨wx, hwx⟩ : ∃ z : World, z = wo.alloc (.cells #[.int .i64 f, .int .i64 t, .int .i64 g] 38) := ⟨_, rfl⟩
    have hbx : Below wo.heap.size wo wx := by rw [hwx]; exact (Below.refl _ _).alloc (Nat.le_refl _) _
    have hox : Own wx wo.heap.size [.int .i64 f, .int .i64 t, .int .i64 g] := by rw [hwx]; exact Own.new_at wo _ _ _ rfl
    have HBX := Lib.hid (HB.out.trans (hbx.mono HB.out.size))
    have HOX := Lib.hid hox
    have z0 := hox.1 0 _ rfl
    have z1 := hox.1 1 _ rfl
    have z2 := hox.1 2 _ rfl
    have hzx : wo.heap.size < wx.heap.size := by rw [hwx]; simp
    clear hbx hox
    go_upto_region 4 with (fail)
    rw [← hwx]
    clear hwx k0 k1 k2
    by_cases c1 : g < 1
    · have e1 : decide (g < 1) = true := decide_eq_true c1
      have HX := Lib.hid (HNO.out wx HBX.out (fun h => by omega))
      clear c1
      go_wp2_with (fail)
      go_ret
      exact HX.out
    have e1 : decide (g < 1) = false := decide_eq_false c1
    by_cases c2 : t < 0
    · have e2 : decide (t < 0) = true := decide_eq_true c2
      have HX := Lib.hid (HNO.out wx HBX.out (fun h => by omega))
      clear c2 c1
      go_wp2_with (fail)
      go_ret
      exact HX.out
    have e2 : decide (t < 0) = false := decide_eq_false c2
    by_cases c3 : f ≤ t
    · have e3 : decide (f ≤ t) = true := decide_eq_true c3
      have HX := Lib.hid (HNO.out wx HBX.out (fun h => by omega))
      clear c2 c1 c3
      go_wp2_with (fail)
      go_ret
      exact HX.out
    have e3 : decide (f ≤ t) = false := decide_eq_false c3
    have HOK : Hid (1 ≤ g ∧ 0 ≤ t ∧ t < f) := Lib.hid (by omega)
    clear c1 c2 c3
    cases j with
    | zero =>
      have HR2 := Lib.hid (HST.out HOK.out (.inl rfl))
      go_wp2_with (fail)
      go_roundw
      case rel => exact ⟨1, rfl, hlt, HR2, HBX⟩
      case measure => simp [intOf] <;> omega
    | succ p =>
      obtain ⟨o1, o2, hpc⟩ := HPV.out p rfl
      obtain ⟨p0, p1, p2⟩ := hpc wx HBX.out
      simp only [Nat.add_sub_cancel, show ¬ (p + 1 = 0) by omega, false_or] at HST HNO
      have d5 : (((p : Int) + 1) == 0) = false := by simp; omega
      have d6 : ((p + 1) == 0) = false := by simp
      have q3 : IntKind.i64.wrap ((p : Int) + 1 - 1) = (p : Int) := by rw [IntWalk.i64_in _ (by omega)]; omega
      have q4 : IntKind.i64.wrap (p : Int) = (p : Int) := IntWalk.i64_in _ (by omega)
      have hbp : p < n := by omega
      have hbp2 : (p : Int) < (n : Int) := by omega
      clear hpc HPV
      generalize atM l p = y at *
      obtain ⟨yf, yt, yl⟩ := y
      simp only [OkM, StM] at p0 p1 p2 o1 o2 HST HNO
      have q5 : IntKind.i64.wrap (t - yt) = t - yt := IntWalk.i64_in _ (by have := HOK.out; omega)
      have q6 : IntKind.i64.wrap (f - yf) = f - yf := IntWalk.i64_in _ (by have := HOK.out; omega)
      obtain ⟨wy, hwy⟩ : ∃ z : World, z = wx.alloc (.cells #[.int .i64 yf, .int .i64 yt, .int .i64 yl] 38) := ⟨_, rfl⟩
      have hby : Below wx.heap.size wx wy := by rw [hwy]; exact (Below.refl _ _).alloc (Nat.le_refl _) _
      have hoy : Own wy wx.heap.size [.int .i64 yf, .int .i64 yt, .int .i64 yl] := by rw [hwy]; exact Own.new_at wx _ _ _ rfl
      have HOY := Lib.hid (HOX.out.below hby hzx)
      have HBY := Lib.hid (HBX.out.trans (hby.mono HBX.out.size))
      go_upto_region 8 with (fail)
      rw [← hwy]
      clear hwy p0 p1 p2 z0 z1 z2 q3 q4
      have z0 := HOY.out.1 0 _ rfl
      have z1 := HOY.out.1 1 _ rfl
      have y0 := hoy.1 0 _ rfl
      have y1 := hoy.1 1 _ rfl
      have y2 := hoy.1 2 _ rfl
      clear hby hoy
      by_cases c1 : t - yt < yl
      · have f1 : decide (t - yt < yl) = true := decide_eq_true c1
        have HX := Lib.hid (HNO.out wy HBY.out (fun h => by omega))
        clear c1
        go_wp2_with (fail)
        go_ret
        exact HX.out
      have f1 : decide (t - yt < yl) = false := decide_eq_false c1
      by_cases c2 : f - yf < yl
      · have f2 : decide (f - yf < yl) = true := decide_eq_true c2
        have HX := Lib.hid (HNO.out wy HBY.out (fun h => by omega))
        clear c1 c2
        go_wp2_with (fail)
        go_ret
        exact HX.out
      have f2 : decide (f - yf < yl) = false := decide_eq_false c2
      have HR2 := Lib.hid (HST.out HOK.out (by omega))
      clear c1 c2
      go_wp2_with (fail)
      go_roundw
      case rel => exact ⟨p + 2, rfl, hlt, HR2, HBY⟩
      case measure => simp [intOf] <;> omega
end Go.Proofs.Ytfnaoekkdgndkaa
