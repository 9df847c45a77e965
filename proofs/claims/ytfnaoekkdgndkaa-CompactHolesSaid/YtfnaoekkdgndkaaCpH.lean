/- places: the spans of all chains by their places. -/
import Derived.Test.YtfnaoekkdgndkaaCpC
import Derived.Test.YtfnaoekkdgndkaaCpG
import Derived.Lib.FrozenHead
namespace Go.Proofs.Ytfnaoekkdgndkaa
set_option maxRecDepth 100000
set_option linter.unusedVariables false
set_option linter.unusedSimpArgs false
open Go.RowKit
theorem insertion_zero (a : Option Addr) (cap : Nat) (fv : Value) (w : World) : Calls Try.prog 29 #[.slice a 0 cap, .int .i64 0, .int .i64 0, fv] w fun e w' => e = .returned (.tuple #[]) ∧ w = w' := by
  go_enter Try.func29, Try.ntmps29
  go_wp2_with (fail)
  refine wp_loop_rounds 1 ?_
  rw [rounds_succ]
  go_wp2_with (fail)
  go_end0
  exact ⟨rfl, rfl⟩
theorem stable_zero (a : Option Addr) (cap : Nat) (fv : Value) (w : World) : Calls Try.prog 27 #[.slice a 0 cap, .int .i64 0, fv] w fun e w' => e = .returned (.tuple #[]) ∧ w = w' := by
  go_enter Try.func27, Try.ntmps27
  go_wp2_with (fail)
  refine wp_loop_rounds 1 ?_
  rw [rounds_succ]
  go_wp2_with (fail)
  refine (insertion_zero a cap fv w).mono ?_
  rintro e w' ⟨rfl, rfl⟩
  go_wp2_with (fail)
  refine wp_loop_rounds 1 ?_
  rw [rounds_succ]
  go_wp2_with (fail)
  go_end0
  exact ⟨rfl, rfl⟩
theorem sortStable_zero (a : Option Addr) (cap : Nat) (fv : Value) (w : World) : Calls Try.prog 24 #[.slice a 0 cap, fv] w fun e w' => e = .returned (.tuple #[]) ∧ w = w' := by
  go_enter Try.func24, Try.ntmps24
  go_wp2_with (fail)
  refine (stable_zero a cap fv w).mono ?_
  rintro e w' ⟨rfl, rfl⟩
  go_wp2_with (fail)
  go_end0
  exact ⟨rfl, rfl⟩

/-- A row of pointers. -/
def pcells (n : Nat) (ps : Nat → Value) : List Value := (List.range n).map ps
theorem pcells_get {n k : Nat} (ps : Nat → Value) (h : k < n) : (pcells n ps)[k]? = some (ps k) := by
  unfold pcells
  rw [List.getElem?_map, List.getElem?_range h]
  rfl
theorem pcells_len (n : Nat) (ps : Nat → Value) : (pcells n ps).length = n := by unfold pcells; simp
theorem pcells_succ (n : Nat) (ps : Nat → Value) : pcells (n + 1) ps = pcells n ps ++ [ps n] := by
  unfold pcells
  rw [List.range_succ, List.map_append]
  rfl
/-- Chains in memory, told by a slice of pointers. -/
def ChsA (w : World) (v : Value) (n : Nat) (ls : Nat → List Sp) : Prop := ∃ ps, Sl w w.heap.size 1 v n (pcells n ps) ∧ ∀ i, i < n → Chn 0 w (ps i) (ls i)
theorem ChsA.below {w w' : World} {v : Value} {n : Nat} {ls : Nat → List Sp} (h : ChsA w v n ls) (hb : Below w.heap.size w w') : ChsA w' v n ls := by
  obtain ⟨ps, h1, h2⟩ := h
  exact ⟨ps, (h1.below hb).mono hb.size, fun i hi => (h2 i hi).below hb⟩
theorem Row.arr {base e : Nat} {w : World} {v : Value} {n : Nat} {l : List Pc} (h : Row base e 4 w v n (lc pcC l)) (hl : n = l.length) (hn : 0 < n) : ∃ g cap, v = .slice (some ⟨g, 0, none⟩) n cap ∧ n ≤ cap ∧ base ≤ g ∧ Arr w g n (atP l) := by
  rcases row_form h with ⟨_, h0, _⟩ | ⟨g, cap, rfl, hcap, hb, hg⟩
  · omega
  · refine ⟨g, cap, rfl, hcap, hb, fun k hk i v hv => ?_, fun k => h.frozenAt k, hg⟩
    have hi : i < 4 := (List.getElem?_eq_some_iff.1 hv).1
    have := sl_same h.sl hn (k * 4 + i) v ((lc_get pcC_len (atP_get (by omega)) hi).trans hv)
    rwa [Nat.zero_add] at this
theorem Arr.slc {w : World} {g n cap : Nat} {f : Nat → El} {l : List Pc} (h : Arr w g n f) (hl : n = l.length) (hf : ∀ k, k < n → f k = atP l k) (hc : n ≤ cap) : Sl w w.heap.size 4 (.slice (some ⟨g, 0, none⟩) n cap) n (lc pcC l) := by
  refine ⟨by rw [lc_len pcC_len, hl], _, _, rfl, hc, .inr ⟨g, 0, rfl, h.lt, fun j u hj => ?_⟩⟩
  have hjl := (List.getElem?_eq_some_iff.1 hj).1
  rw [lc_len pcC_len, ← hl] at hjl
  have hk : j / 4 < n := by omega
  have e : j / 4 * 4 + j % 4 = j := by omega
  have h1 := lc_get (c := pcC) pcC_len (atP_get (l := l) (j := j / 4) (by omega)) (i := j % 4) (by omega)
  rw [e, hj] at h1
  have := h.cell (j / 4) hk (j % 4) u (by rw [hf _ hk]; exact h1.symm)
  rwa [e, ← Nat.zero_add j] at this
theorem rowN_app (o : Nat) (l : List Sp) (j : Nat) : rowN o l (j + 1) = rowN o l j ++ [pcOf o l j] := rfl
theorem sumL_le (ls : Nat → List Sp) {j n : Nat} (h : j ≤ n) : sumL ls j ≤ sumL ls n := by
  induction n with
  | zero => rw [show j = 0 by omega]; exact Nat.le_refl _
  | succ n ih =>
    by_cases e : j = n + 1
    · rw [e]; exact Nat.le_refl _
    · have := ih (by omega)
      show sumL ls j ≤ sumL ls n + (ls n).length
      omega
set_option maxHeartbeats 8000000 in
theorem places_any (n : Nat) (ls : Nat → List Sp) (v : Value) (w : World) (h : ChsA w v n ls) (hwf : WF ls n) (hn : n ≤ 1000) (hsum : sumL ls n ≤ 1000) :
    Calls Try.prog 21 #[v] w fun e w' => ∃ v', e = .returned v' ∧ Sl w' w'.heap.size 4 v' (sumL ls n) (lc pcC (pcs ls n)) ∧ Below w.heap.size w w' ∧ ∀ g, v'.ownBlock = some g → w.heap.size ≤ g := by
  obtain ⟨ps, hs, hc⟩ := h
  obtain ⟨a, cap, rfl, hcap⟩ := hs.form
  have HS := Lib.hid (fun (W : World) (hW : Below w.heap.size w W) => hs.below hW)
  have HC := Lib.hid (fun (W : World) (hW : Below w.heap.size w W) (i : Nat) (hi : i < n) => (hc i hi).below hW)
  have HWF := Lib.hid hwf
  clear hs hc hwf
  go_enter Try.func21, Try.ntmps21
  go_wp2_with (fail)
  go_loopw [3, 10] (fun x i wr => ∃ j : Nat, i = .int .i64 j ∧ j ≤ n ∧ Hid (Row w.heap.size 66 4 wr x (sumL ls j) (lc pcC (allP ls j))) ∧ Hid (Below w.heap.size w wr)) (fun _ i _ => n - (intOf i).toNat)
  case atStart => exact ⟨0, rfl, Nat.zero_le _, Lib.hid Row.nil, Lib.hid (Below.refl _ _)⟩
  case round =>
    obtain ⟨j, rfl, hj, HR, HB⟩ := hrel
    obtain ⟨wo, rfl⟩ : ∃ z : World, z = wr := ⟨_, rfl⟩
    have hzo : w.heap.size ≤ wo.heap.size := HB.out.size
    obtain ⟨xa, xc, rfl, _⟩ := HR.out.form
    by_cases hlt : j < n
    rotate_left
    · have d1 : decide (j < n) = false := decide_eq_false hlt
      have d2 : decide ((j : Int) < (n : Int)) = false := decide_eq_false (by omega)
      obtain rfl : j = n := by omega
      obtain ⟨N, hN⟩ : ∃ z, sumL ls j = z := ⟨_, rfl⟩
      have hNs := HWF.out
      have hPL := pcs_len ls j
      have hAL := allP_len ls j
      rw [hN] at HR hsum hPL hAL ⊢
      by_cases h0 : N = 0
      · subst h0
        have e0 : pcs ls j = [] := List.eq_nil_of_length_eq_zero hPL
        have HSL := Lib.hid HR.out.sl
        have HLT := Lib.hid (fun g hg => (HR.out.lt g hg).1)
        have e1 : allP ls j = [] := List.eq_nil_of_length_eq_zero hAL
        rw [e1] at HSL
        have HE0 := Lib.hid e0
        have HN := Lib.hid hN
        clear hNs hPL hAL hN e0
        go_wp2_with (fail)
        refine (sortStable_zero xa xc _ wo).mono ?_
        rintro e w' ⟨rfl, rfl⟩
        go_wp2_with (fail)
        go_ret
        exact ⟨_, rfl, by rw [HE0.out, HN.out]; exact HSL.out, HB.out, HLT.out⟩
      · obtain ⟨g, cap', hvv, hcap', hg, ha⟩ := HR.out.arr hAL.symm (by omega)
        injection hvv with hv1 _ hv3
        subst hv1 hv3
        have HW := Lib.hid (sortStable_any g N xc 25 #[] cmpP leA (atP (allP ls j)) wo ha (by omega) leA_ord cmpP_le (cmp_ok _ _) cmp_enter)
        have HNS := Lib.hid hNs
        have HLT : Hid (∀ q, (Value.slice (some ⟨g, 0, none⟩) N xc).ownBlock = some q → w.heap.size ≤ q) := Lib.hid (fun q hq => by injection hq with hq; subst hq; exact hg)
        have HN := Lib.hid hN
        clear ha hNs hN
        go_wp2_with (fail)
        refine HW.out.mono ?_
        rintro e w2 ⟨rfl, ⟨g', hs, ht, ha⟩, hgr⟩
        have HG := Lib.hid (HB.out.trans (Gr.below hgr hg hzo))
        have HSL : Hid (Sl w2 w2.heap.size 4 (.slice (some ⟨g, 0, none⟩) N xc) N (lc pcC (pcs ls j))) := Lib.hid (ha.slc hPL.symm (fun k hk => by
          have := HNS.out.sorted (g := g') (by rw [HN.out]; exact hs) (by rw [HN.out]; exact ht) k (by rw [HN.out]; exact hk)
          exact this) hcap')
        clear ha hs ht hgr
        go_wp2_with (fail)
        go_ret
        exact ⟨_, rfl, by rw [HN.out]; exact HSL.out, HG.out, HLT.out⟩
    have d1 : decide (j < n) = true := decide_eq_true hlt
    have d2 : decide ((j : Int) < (n : Int)) = true := decide_eq_true (by omega)
    have q1 : IntKind.i64.wrap ((j : Int) + 1) = (j : Int) + 1 := IntWalk.i64_in _ (by omega)
    have hbi : (j : Int) < (n : Int) := by omega
    obtain ⟨b, off, rfl, hk0⟩ := sl_cells (HS.out wo HB.out) (by omega)
    have k0 := hk0 j _ (pcells_get ps hlt)
    have hsj : sumL ls (j + 1) ≤ sumL ls n := sumL_le ls hlt
    have hsj' : sumL ls (j + 1) = sumL ls j + (ls j).length := rfl
    have hap : allP ls (j + 1) = allP ls j ++ rowN j (ls j) (ls j).length := rfl
    have HL := Lib.hid (list_any 0 (ps j) (ls j) wo (HC.out wo HB.out j hlt) (by omega))
    obtain ⟨S, hS⟩ : ∃ z, sumL ls j = z := ⟨_, rfl⟩
    obtain ⟨m, hm⟩ : ∃ z, (ls j).length = z := ⟨_, rfl⟩
    rw [hS] at HR hsj' ⊢
    rw [hm] at HL hsj' hap
    have HM := Lib.hid hm
    have HSJ := Lib.hid hsj'
    have HAP := Lib.hid hap
    have hSm : S + m ≤ 1000 := by omega
    clear hk0 hsj hap hS hm hsj'
    generalize hpj : ps j = pj at *
    clear hpj
    go_wp2_with (fail)
    refine HL.out.mono ?_
    rintro e w1 ⟨v1, rfl, hr1, hb1⟩
    obtain ⟨a1, c1, rfl, _⟩ := hr1.form
    have HRX := Lib.hid (HR.out.below hb1)
    have HB1 := Lib.hid (HB.out.trans (hb1.mono hzo))
    have HR1 := Lib.hid hr1
    clear hr1 hb1 HL k0
    go_wp2_with (fail)
    go_loopw [3, 18] (fun x i wr => ∃ k : Nat, i = .int .i64 k ∧ k ≤ m ∧ Hid (Row w.heap.size 66 4 wr x (S + k) (lc pcC (allP ls j ++ rowN j (ls j) k))) ∧ Hid (Row wo.heap.size 57 2 wr (.slice a1 m c1) m (lc spC (ls j))) ∧ Hid (Below w.heap.size w wr)) (fun _ i _ => m - (intOf i).toNat)
    case atStart => exact ⟨0, rfl, Nat.zero_le _, Lib.hid (by have := HRX.out; unfold rowN; rw [List.append_nil]; exact this), HR1, HB1⟩
    case round =>
      obtain ⟨k, rfl, hk, HRK, HR1, HBK⟩ := hrel
      obtain ⟨w2, rfl⟩ : ∃ z : World, z = wr := ⟨_, rfl⟩
      obtain ⟨ya, yc, rfl, _⟩ := HRK.out.form
      by_cases hkm : k < m
      rotate_left
      · have d3 : decide (k < m) = false := decide_eq_false hkm
        have d4 : decide ((k : Int) < (m : Int)) = false := decide_eq_false (by omega)
        obtain rfl : k = m := by omega
        have HRJ : Hid (Row w.heap.size 66 4 w2 (.slice ya (S + k) yc) (sumL ls (j + 1)) (lc pcC (allP ls (j + 1)))) := Lib.hid (by rw [HSJ.out, HAP.out]; exact HRK.out)
        go_wp2_with (fail)
        go_roundw
        case rel => exact ⟨j + 1, rfl, hlt, HRJ, HBK⟩
        case measure => simp [intOf] <;> omega
      have d3 : decide (k < m) = true := decide_eq_true hkm
      have d4 : decide ((k : Int) < (m : Int)) = true := decide_eq_true (by omega)
      have q2 : IntKind.i64.wrap ((k : Int) + 1) = (k : Int) + 1 := IntWalk.i64_in _ (by omega)
      have hbk : (k : Int) < (m : Int) := by omega
      obtain ⟨x, hx⟩ : ∃ x, (ls j)[k]? = some x := ⟨_, List.getElem?_eq_getElem (by rw [HM.out]; exact hkm)⟩
      have hpc : pcOf j (ls j) k = ⟨x.1, x.2, j, k⟩ := by
        have h1 := atS_get (l := ls j) (j := k) (by rw [HM.out]; exact hkm)
        rw [hx] at h1
        unfold pcOf
        rw [← Option.some.inj h1]
      have hsl := HR1.out.sl
      obtain ⟨b2, o2, ha2, _⟩ := sl_cells hsl (by omega)
      subst ha2
      obtain ⟨k0, k1⟩ := sp_cells hsl HM.out.symm hx
      have HPC := Lib.hid hpc
      clear hsl hpc hx
      obtain ⟨x1, x2⟩ := x
      simp only at k0 k1 HPC
      obtain ⟨wx, hwx⟩ : ∃ z : World, z = w2.alloc (.cells #[.int .i64 (x1 : Nat), .int .i64 (x2 : Nat)] 57) := ⟨_, rfl⟩
      have hbx : Below w2.heap.size w2 wx := by rw [hwx]; exact (Below.refl _ _).alloc (Nat.le_refl _) _
      have hox : Own wx w2.heap.size [.int .i64 (x1 : Nat), .int .i64 (x2 : Nat)] := by rw [hwx]; exact Own.new_at w2 _ _ _ rfl
      have z0 := hox.1 0 _ rfl
      have z1 := hox.1 1 _ rfl
      obtain ⟨wy, hwy⟩ : ∃ z : World, z = wx.alloc (.cells #[.int .i64 (x1 : Nat), .int .i64 (x2 : Nat), .int .i64 (j : Nat), .int .i64 (k : Nat)] 66) := ⟨_, rfl⟩
      have hby : Below wx.heap.size wx wy := by rw [hwy]; exact (Below.refl _ _).alloc (Nat.le_refl _) _
      have HSY : Hid (Sl wy (wx.heap.size + 1) 4 (.slice (some ⟨wx.heap.size, 0, none⟩) 1 1) 1 [.int .i64 (x1 : Nat), .int .i64 (x2 : Nat), .int .i64 (j : Nat), .int .i64 (k : Nat)]) := Lib.hid (by rw [hwy]; exact Sl.new wx 4 1 _ 66 rfl)
      have HON : Hid (∀ u ∈ ([.int .i64 (x1 : Nat), .int .i64 (x2 : Nat), .int .i64 (j : Nat), .int .i64 (k : Nat)] : List Value), u.oneCell' = true) := Lib.hid (by intro u hu; simp at hu; rcases hu with rfl | rfl | rfl | rfl <;> rfl)
      have HBXY := Lib.hid (hbx.trans (hby.mono hbx.size))
      have HRY := Lib.hid (HRK.out.below HBXY.out)
      have HRZ := Lib.hid (HR1.out.below HBXY.out)
      have hzy : w.heap.size ≤ wy.heap.size := by have := HBK.out.size; have := HBXY.out.size; omega
      have HWY := Lib.hid hwy
      clear hbx hby hox hwy
      go_upto_region 8 with (fail)
      rw [← hwx]
      clear hwx k0 k1
      go_wp2_with (at_builtin; rw [← HWY.out]; refine append_rowG (base := w.heap.size) (size := 4) (xs := lc pcC (allP ls j ++ rowN j (ls j) k)) Try.underlying63 info_pl rfl (by decide) rfl _ _ rfl rfl HRY.out rfl HSY.out HON.out ?_ ?_ ?_ ?_; omega; omega; exact hzy)
      intro v3 w3 hr3 hb3 hg3
      have HR3 : Hid (Row w.heap.size 66 4 w3 v3 (S + (k + 1)) (lc pcC (allP ls j ++ rowN j (ls j) (k + 1)))) := Lib.hid (by
        rw [rowN_app, ← List.append_assoc, lc_app, lc_one, HPC.out]
        exact hr3)
      have HB3 := Lib.hid ((HBK.out.trans (HBXY.out.mono HBK.out.size)).trans hb3)
      have HR4 := Lib.hid (HRZ.out.kept_ne HRY.out hg3 (by decide))
      clear hr3 hb3 hg3
      go_wp2_with (fail)
      go_roundw
      case rel => exact ⟨k + 1, rfl, hkm, HR3, HR4, HB3⟩
      case measure => simp [intOf] <;> omega
end Go.Proofs.Ytfnaoekkdgndkaa
