/- Made: three chains of spans that lie apart. -/
import Derived.Test.YtfnaoekkdgndkaaCpX
namespace Go.Proofs.Ytfnaoekkdgndkaa
set_option maxRecDepth 100000
set_option linter.unusedVariables false
set_option linter.unusedSimpArgs false
open Go.RowKit
def gpC (x : Nat × Nat × Nat) : List Value := [.int .u8 (x.1 : Nat), .int .u8 (x.2.1 : Nat), .int .u8 (x.2.2 : Nat)]
theorem gpC_len (x : Nat × Nat × Nat) : (gpC x).length = 3 := rfl
def atG (L : List (Nat × Nat × Nat)) (k : Nat) : Nat × Nat × Nat := L.getD k (0, 0, 0)
theorem atG_get {L : List (Nat × Nat × Nat)} {j : Nat} (h : j < L.length) : L[j]? = some (atG L j) := by
  unfold atG
  rw [List.getD_eq_getElem?_getD, List.getElem?_eq_getElem h]
  rfl
theorem gp_cells {w : World} {B cap b off n : Nat} {L : List (Nat × Nat × Nat)} (h : Sl w B 3 (.slice (some ⟨b, off, none⟩) n cap) n (lc gpC L)) {j : Nat} (hn : n = L.length) (hj : j < n) :
    w.cell? ⟨b, off + j * 3, none⟩ = some (.int .u8 ((atG L j).1 : Nat)) ∧ w.cell? ⟨b, off + j * 3 + 1, none⟩ = some (.int .u8 ((atG L j).2.1 : Nat)) ∧ w.cell? ⟨b, off + j * 3 + 2, none⟩ = some (.int .u8 ((atG L j).2.2 : Nat)) := by
  have hc := sl_same h (by omega)
  have hg := atG_get (L := L) (j := j) (by omega)
  exact ⟨hc (j * 3 + 0) _ (lc_get gpC_len hg (by omega)), hc (j * 3 + 1) _ (lc_get gpC_len hg (by omega)), hc (j * 3 + 2) _ (lc_get gpC_len hg (by omega))⟩
/-- Rows of different types never share a block. -/
theorem Row.ne_block {base e size n base2 e2 size2 m : Nat} {w : World} {v u : Value} {xs ys : List Value} (h : Row base e size w v n xs) (h2 : Row base2 e2 size2 w u m ys) (hne : e ≠ e2) {g : Nat} (hv : v.ownBlock = some g) (hu : u.ownBlock = some g) : False := by
  rcases h.2 with ⟨h0, _⟩ | ⟨g1, cap, cur, h1, _, hh, _⟩
  · rw [h0] at hv; cases hv
  · rcases h2.2 with ⟨h0, _⟩ | ⟨g2, cap2, cur2, h3, _, hh2, _⟩
    · rw [h0] at hu; cases hu
    · rw [h1] at hv
      rw [h3] at hu
      injection hv with hv
      injection hu with hu
      have e1 : g1 = g := hv
      have e2 : g2 = g := hu
      subst e1
      rw [e2, hh] at hh2
      simp only [Option.some.injEq, Obj.cells.injEq] at hh2
      exact hne hh2.2.1
set_option maxHeartbeats 16000000 in
theorem made_any (L : List (Nat × Nat × Nat)) (n tn : Nat) (v : Value) (w : World) (h : Sl w w.heap.size 3 v n (lc gpC L)) (hL : n = L.length) (hG : ∀ x ∈ L, x.1 < 256 ∧ x.2.1 < 256 ∧ x.2.2 < 256) (htn : tn < 256) (hn : n ≤ maxLen) :
    Calls Try.prog 7 #[v, .int .u8 (tn : Nat)] w fun e w' => ∃ v1 v2 us, e = .returned (.tuple #[v1, v2]) ∧ ChsA w' v1 3 (madeL (atG L) tn (min n 40)) ∧ Row w.heap.size 39 1 w' v2 3 (pcells 3 us) ∧ LL w.heap.size 34 w' 3 us (madeL (atG L) tn (min n 40)) ∧ Below w.heap.size w w' := by
  obtain ⟨a, cap, rfl, hcap⟩ := h.form
  have HS := Lib.hid (fun (W : World) (hW : Below w.heap.size w W) => h.below hW)
  have HLN := Lib.hid hL
  have HG := Lib.hid hG
  unfold maxLen at hn
  clear h hL hG
  have hmk : (Instr.makeSlice 59 (.int .i64 3) (.int .i64 3)).run Try.prog w = .ok (.slice (some ⟨w.heap.size, 0, none⟩) 3 3) (w.alloc (.cells (pcells 3 (fun _ => .slice none 0 0)).toArray 43)) := hmkS 3 w (by omega)
  obtain ⟨wa, hwa⟩ : ∃ z : World, z = w.alloc (.cells (pcells 3 (fun _ => .slice none 0 0)).toArray 43) := ⟨_, rfl⟩
  have HRA : Hid (Row w.heap.size 43 1 wa (.slice (some ⟨w.heap.size, 0, none⟩) 3 3) 3 (pcells 3 (fun _ => .slice none 0 0))) := Lib.hid (by rw [hwa]; exact Row.made w _ 3 _ (by omega))
  have HBA : Hid (Below w.heap.size w wa) := Lib.hid (by rw [hwa]; exact (Below.refl _ _).alloc (Nat.le_refl _) _)
  have hob : w.heap.size < wa.heap.size := by rw [hwa]; simp
  go_enter Try.func7, Try.ntmps7
  go_upto_region 2 with (fail)
  rw [← hwa]
  clear hwa hmk
  obtain ⟨ob, hob0⟩ : ∃ z, w.heap.size = z := ⟨_, rfl⟩
  have HOB := Lib.hid hob0
  rw [hob0] at HRA hob ⊢
  clear hob0
  go_wp2_with (fail)
  go_loopw [7, 8] (fun t i wr => ∃ (k : Nat) (us : Nat → Value), i = .int .i64 k ∧ k ≤ min n 40 ∧ t = .int .i64 ((madeN (atG L) tn k).1 : Nat) ∧ Hid (Row ob 43 1 wr (.slice (some ⟨ob, 0, none⟩) 3 3) 3 (pcells 3 us)) ∧ Hid (LL (ob + 1) 57 wr 3 us (madeN (atG L) tn k).2) ∧ Hid (Below w.heap.size w wr) ∧ ob < wr.heap.size) (fun _ i _ => 40 - (intOf i).toNat)
  case atStart => exact ⟨0, _, rfl, Nat.zero_le _, rfl, HRA, Lib.hid LL.nil, HBA, hob⟩
  case round =>
    clear HRA HBA hob
    obtain ⟨k, us, rfl, hk, rfl, HR, HL, HB, hob⟩ := hrel
    obtain ⟨wo, rfl⟩ : ∃ z : World, z = wr := ⟨_, rfl⟩
    by_cases hkK : k < min n 40
    · have d1 : decide ((k : Int) < (n : Int)) = true := decide_eq_true (by omega)
      have d2 : decide (k < n) = true := decide_eq_true (by omega)
      have d3 : decide ((k : Int) < 40) = true := decide_eq_true (by omega)
      have d4 : decide (k < 40) = true := decide_eq_true (by omega)
      have q1 : IntKind.i64.wrap ((k : Int) + 1) = (k : Int) + 1 := IntWalk.i64_in _ (by omega)
      have hbi : (k : Int) < (n : Int) := by omega
      have hbn : k < n := by omega
      obtain ⟨b, off, rfl, _⟩ := sl_cells (HS.out wo HB.out) (by omega)
      obtain ⟨k0, k1, k2⟩ := gp_cells (HS.out wo HB.out) HLN.out hbn
      have KG := Lib.hid (fun (W : World) (hW : Below w.heap.size w W) => gp_cells (HS.out W hW) HLN.out hbn)
      have hg := HG.out _ (List.mem_of_getElem? (atG_get (L := L) (j := k) (by have := HLN.out; omega)))
      have hat := (made_inv (atG L) tn k).at_le
      obtain ⟨T, hT⟩ : ∃ z, (madeN (atG L) tn k).1 = z := ⟨_, rfl⟩
      obtain ⟨g1, hg1⟩ : ∃ z, (atG L k).1 = z := ⟨_, rfl⟩
      obtain ⟨g2, hg2⟩ : ∃ z, (atG L k).2.1 = z := ⟨_, rfl⟩
      obtain ⟨g3, hg3⟩ : ∃ z, (atG L k).2.2 = z := ⟨_, rfl⟩
      rw [hT] at hat ⊢
      rw [hg1] at k0 hg
      rw [hg2] at k1 hg
      rw [hg3] at k2 hg
      rw [hg1, hg2, hg3] at KG
      have HT := Lib.hid hT
      have HG1 := Lib.hid hg1
      have HG2 := Lib.hid hg2
      have HG3 := Lib.hid hg3
      clear hT hg1 hg2 hg3
      obtain ⟨A, hA⟩ : ∃ z : Nat, T + g1 % 8 = z := ⟨_, rfl⟩
      obtain ⟨N, hN⟩ : ∃ z : Nat, g2 % 8 = z := ⟨_, rfl⟩
      obtain ⟨O, hO⟩ : ∃ z : Nat, g3 % 3 = z := ⟨_, rfl⟩
      have eA : (T : Int) + (g1 : Int) % 8 = (A : Int) := by omega
      have eN : (g2 : Int) % 8 = (N : Int) := by omega
      have eO : (g3 : Int) % 3 = (O : Int) := by omega
      have hO3 : O < 3 := by omega
      have hA560 : A ≤ 1000 ∧ N < 8 := by omega
      have hstep : madeN (atG L) tn (k + 1) = (T + g1 % 8 + g2 % 8, updA (madeN (atG L) tn k).2 (g3 % 3) (if tn / 2 ^ (g3 % 3) % 2 = 1 then (T + g1 % 8, g2 % 8) :: (madeN (atG L) tn k).2 (g3 % 3) else (madeN (atG L) tn k).2 (g3 % 3) ++ [(T + g1 % 8, g2 % 8)])) := by
        rw [← HT.out, ← HG1.out, ← HG2.out, ← HG3.out]
        rfl
      rw [hA, hN, hO] at hstep
      have HSTEP := Lib.hid hstep
      clear hstep
      have HA := Lib.hid hA
      have HN := Lib.hid hN
      have HO := Lib.hid hO
      clear hA hN hO
      obtain ⟨wx, hwx⟩ : ∃ z : World, z = wo.alloc (.cells #[.int .i64 (A : Nat), .int .i64 (N : Nat)] 57) := ⟨_, rfl⟩
      have hbx : Below wo.heap.size wo wx := by rw [hwx]; exact (Below.refl _ _).alloc (Nat.le_refl _) _
      have hox : Own wx wo.heap.size [.int .i64 (A : Nat), .int .i64 (N : Nat)] := by rw [hwx]; exact Own.new_at wo _ _ _ rfl
      have hzx : wo.heap.size < wx.heap.size := by rw [hwx]; simp
      have HR := Lib.hid (HR.out.below hbx)
      have HL := Lib.hid (HL.out.below hbx)
      have HB := Lib.hid (HB.out.trans (hbx.mono HB.out.size))
      have HOX := Lib.hid hox
      go_upto_region 8 with (fail)
      rw [← hwx]
      obtain ⟨k0, k1, k2⟩ := KG.out wx HB.out
      have z0 := hox.1 0 _ rfl
      have z1 := hox.1 1 _ rfl
      clear hwx hbx hox
      have hbe : (tn : Int) / 2 ^ O = ((tn / 2 ^ O : Nat) : Int) := by push_cast; rfl
      have hba := bit_and (tn / 2 ^ O) (Nat.lt_of_le_of_lt (Nat.div_le_self _ _) htn)
      rw [← hbe] at hba
      have HBA := Lib.hid hba
      clear hbe hba
      go_upto_if 60 with (fail)
      obtain ⟨ua, uc, hu, _⟩ := (HL.out.row O hO3).form
      obtain ⟨m, hm⟩ : ∃ z, ((madeN (atG L) tn k).2 O).length = z := ⟨_, rfl⟩
      have hm40 : m ≤ 40 := by have := made_len (atG L) tn k O hO3; omega
      rw [hm] at hu
      have HM := Lib.hid hm
      have HU := Lib.hid hu
      have hobx : ob < wx.heap.size := by omega
      have c0 := row_at HR.out hO3
      rw [HU.out] at c0
      have hO3i : (O : Int) < 3 := by omega
      clear hu hm k0 k1 k2
      by_cases hbit : tn / 2 ^ O % 2 = 1
      · as_aux_lemma =>
        have d5 : (bits .and .u8 ((tn : Int) / 2 ^ O) 1 == 1) = true := by rw [HBA.out, hbit]; rfl
        have HST : Hid (madeN (atG L) tn (k + 1) = (A + N, updA (madeN (atG L) tn k).2 O ((A, N) :: (madeN (atG L) tn k).2 O))) := Lib.hid (by rw [HSTEP.out, if_pos hbit])
        clear hbit
        have HX : Hid (Below wx.heap.size wx (wx.drew.alloc (.cells #[.int .i64 (A : Nat), .int .i64 (N : Nat)] 57))) := Lib.hid (Below.alloc ((Below.refl _ wx).drew) (Nat.le_refl _) _)
        have HLIT : Hid (Row wx.heap.size 57 2 (wx.drew.alloc (.cells #[.int .i64 (A : Nat), .int .i64 (N : Nat)] 57)) (.slice (some ⟨wx.heap.size, 0, none⟩) 1 1) 1 [.int .i64 (A : Nat), .int .i64 (N : Nat)]) := Lib.hid (Row.lit wx.drew [.int .i64 (A : Nat), .int .i64 (N : Nat)] (Nat.le_refl _) (by omega) rfl)
        have HSU : Hid (Sl (wx.drew.alloc (.cells #[.int .i64 (A : Nat), .int .i64 (N : Nat)] 57)) wx.heap.size 2 (.slice ua m uc) m (lc spC ((madeN (atG L) tn k).2 O))) := Lib.hid (by
          have h1 := (HL.out.sl hO3).below HX.out
          rw [HU.out, HM.out] at h1
          exact h1)
        have HZX : Hid (wx.heap.size ≤ (wx.drew.alloc (.cells #[.int .i64 (A : Nat), .int .i64 (N : Nat)] 57)).heap.size) := Lib.hid HX.out.size
        have HONE : Hid (∀ u ∈ lc spC ((madeN (atG L) tn k).2 O), u.oneCell' = true) := Lib.hid (sp_one _)
        go_upto_region 11 with (fail)
        go_region_law (first
          | (refine step_append_row Try.underlying43 info_sp rfl (by decide) rfl (.tmp 64) (.tmp 68) rfl rfl HLIT.out rfl HSU.out HONE.out (by omega) (by omega) HZX.out ?_
             intro v69 w69 hr69 hb69 hg69
             obtain ⟨a69, c69, hv69, _⟩ := hr69.form
             subst hv69
             have HR69 := Lib.hid hr69
             have HB69 : Hid (Below wx.heap.size wx w69) := Lib.hid (HX.out.trans hb69)
             have hrr := HR.out.below HB69.out
             have y0 := row_at hrr hO3
             have y1 := hrr.frozenAt O
             clear hr69 hb69 hg69 hrr))
        all_goals
          have HR2 := Lib.hid (row_put (HR.out.below HB69.out) hO3 (.slice a69 (1 + m) c69))
          have hob3 : ob < (w69.setCell ⟨ob, O, none⟩ (.slice a69 (1 + m) c69)).heap.size := by have := HB69.out.size; simp; omega
          have HB2 : Hid (Below w.heap.size w (w69.setCell ⟨ob, O, none⟩ (.slice a69 (1 + m) c69))) := Lib.hid ((HB.out.trans (HB69.out.mono HB.out.size)).setCell (p := ⟨ob, O, none⟩) (by have := HOB.out; show w.heap.size ≤ ob; omega) _)
          have HL2 : Hid (LL (ob + 1) 57 (w69.setCell ⟨ob, O, none⟩ (.slice a69 (1 + m) c69)) 3 (updA us O (.slice a69 (1 + m) c69)) (madeN (atG L) tn (k + 1)).2) := Lib.hid (by
            rw [HST.out]
            refine LL.setC (LL.putNew HL.out HB69.out ?_ (by omega)) (by omega) _ _
            have h1 := HR69.out
            rw [show ((A, N) :: (madeN (atG L) tn k).2 O).length = 1 + m by simp [HM.out]; omega]
            exact h1)
          clear c0 y0 y1 z0 z1
          go_wp2_with (fail)
          go_roundw
          case rel => exact ⟨k + 1, _, rfl, by omega, (by rw [HST.out]; first | rfl | exact congrArg (Value.int .i64) (by omega)), HR2, HL2, HB2, hob3⟩
          case measure => simp [intOf] <;> omega
      · as_aux_lemma =>
        have d5 : (bits .and .u8 ((tn : Int) / 2 ^ O) 1 == 1) = false := by
          rw [HBA.out, show tn / 2 ^ O % 2 = 0 by omega]; rfl
        have HST : Hid (madeN (atG L) tn (k + 1) = (A + N, updA (madeN (atG L) tn k).2 O ((madeN (atG L) tn k).2 O ++ [(A, N)]))) := Lib.hid (by rw [HSTEP.out, if_neg hbit])
        clear hbit
        have HX : Hid (Below wx.heap.size wx (wx.drew.alloc (.cells #[.int .i64 (A : Nat), .int .i64 (N : Nat)] 57))) := Lib.hid (Below.alloc ((Below.refl _ wx).drew) (Nat.le_refl _) _)
        have HROW : Hid (Row (ob + 1) 57 2 (wx.drew.alloc (.cells #[.int .i64 (A : Nat), .int .i64 (N : Nat)] 57)) (.slice ua m uc) m (lc spC ((madeN (atG L) tn k).2 O))) := Lib.hid (by
          have h1 := (HL.out.row O hO3).below HX.out
          rw [HU.out, HM.out] at h1
          exact h1)
        have HZX : Hid (ob + 1 ≤ (wx.drew.alloc (.cells #[.int .i64 (A : Nat), .int .i64 (N : Nat)] 57)).heap.size) := Lib.hid (by have := HX.out.size; omega)
        have HLX := Lib.hid (HL.out.below HX.out)
        have HRX := Lib.hid (HR.out.below HX.out)
        go_upto_region 12 with (fail)
        go_region_law (first
          | (refine step_append_row2 Try.underlying43 info_sp rfl (by decide) rfl (.tmp 76) (.tmp 78) rfl rfl HROW.out rfl (Sl.new wx.drew 2 1 [.int .i64 (A : Nat), .int .i64 (N : Nat)] 57 rfl) (by intro u hu; simp at hu; rcases hu with rfl | rfl <;> rfl) (by omega) (by omega) HZX.out ?_
             intro v69 w69 hr69 hb69 hg69 hw69
             obtain ⟨a69, c69, hv69, _⟩ := hr69.form
             subst hv69
             have HR69 : Hid (Row (ob + 1) 57 2 w69 (.slice a69 (m + 1) c69) (m + 1) (lc spC ((madeN (atG L) tn k).2 O) ++ [.int .i64 (A : Nat), .int .i64 (N : Nat)])) := Lib.hid hr69
             have HB69 : Hid (Below (ob + 1) (wx.drew.alloc (.cells #[.int .i64 (A : Nat), .int .i64 (N : Nat)] 57)) w69) := Lib.hid hb69
             have HG69 : Hid ((wx.drew.alloc (.cells #[.int .i64 (A : Nat), .int .i64 (N : Nat)] 57)).grownBy w69 (us O).ownBlock) := Lib.hid (by rw [HU.out]; exact hg69)
             have HW69 : Hid ((Value.slice a69 (m + 1) c69).ownBlock = (us O).ownBlock ∨ ∀ g, (Value.slice a69 (m + 1) c69).ownBlock = some g → (wx.drew.alloc (.cells #[.int .i64 (A : Nat), .int .i64 (N : Nat)] 57)).heap.size ≤ g) := Lib.hid (by rw [HU.out]; exact hw69)
             have HRO := Lib.hid (HRX.out.kept_ne HROW.out (by have := HG69.out; rwa [HU.out] at this) (by decide))
             have y0 := row_at HRO.out hO3
             have y1 := HRO.out.frozenAt O
             clear hr69 hb69 hg69 hw69))
        all_goals
          have HR2 := Lib.hid (row_put HRO.out hO3 (.slice a69 (m + 1) c69))
          have hob3 : ob < (w69.setCell ⟨ob, O, none⟩ (.slice a69 (m + 1) c69)).heap.size := by have := HB69.out.size; have := HX.out.size; simp; omega
          have HB2 : Hid (Below w.heap.size w (w69.setCell ⟨ob, O, none⟩ (.slice a69 (m + 1) c69))) := Lib.hid (((HB.out.trans (HX.out.mono HB.out.size)).trans (HB69.out.mono (by have := HOB.out; omega))).setCell (p := ⟨ob, O, none⟩) (by have := HOB.out; show w.heap.size ≤ ob; omega) _)
          have HL2 : Hid (LL (ob + 1) 57 (w69.setCell ⟨ob, O, none⟩ (.slice a69 (m + 1) c69)) 3 (updA us O (.slice a69 (m + 1) c69)) (madeN (atG L) tn (k + 1)).2) := Lib.hid (by
            rw [HST.out]
            refine LL.setC (LL.grow HLX.out hO3 ?_ HG69.out HW69.out) (by omega) _ _
            have h1 := HR69.out
            rw [show ((madeN (atG L) tn k).2 O ++ [(A, N)]).length = m + 1 by simp [HM.out], lc_app, lc_one]
            exact h1)
          clear c0 y0 y1 z0 z1
          go_wp2_with (fail)
          go_roundw
          case rel => exact ⟨k + 1, _, rfl, by omega, (by rw [HST.out]; first | rfl | exact congrArg (Value.int .i64) (by omega)), HR2, HL2, HB2, hob3⟩
          case measure => simp [intOf] <;> omega
    · have hK : min n 40 = k := by omega
      have hk40 : k ≤ 40 := by omega
      have HLEN : Hid (∀ o, o < 3 → ((madeN (atG L) tn k).2 o).length ≤ 1000) := Lib.hid (fun o ho => Nat.le_trans (made_len _ _ _ _ ho) (by omega))
      have HBD := Lib.hid (made_bd (atG L) tn k hk40)
      have hmadeL : madeL (atG L) tn (min n 40) = fun o => joinL ((madeN (atG L) tn k).2 o) := by rw [hK]; rfl
      obtain ⟨T, hT⟩ : ∃ z, (madeN (atG L) tn k).1 = z := ⟨_, rfl⟩
      rw [hT]
      clear hT
      obtain ⟨ML, hML⟩ : ∃ z, (madeN (atG L) tn k).2 = z := ⟨_, rfl⟩
      rw [hML] at HL HLEN HBD hmadeL
      have HMK := Lib.hid hmadeL
      clear hML hmadeL
      have hzo := HB.out.size
      by_cases hkn : k < n
      · have d1 : decide ((k : Int) < (n : Int)) = true := decide_eq_true (by omega)
        have d2 : decide (k < n) = true := decide_eq_true (by omega)
        have d3 : decide ((k : Int) < 40) = false := decide_eq_false (by omega)
        have d4 : decide (k < 40) = false := decide_eq_false (by omega)
        as_aux_lemma =>
          go_wp2_with (fail)
          go_loopw [11, 12, 13] (fun cv rv i wr => ∃ (q : Nat) (ps vs : Nat → Value), i = .int .i64 q ∧ q ≤ 3 ∧ Hid (Two wo.heap.size wr cv rv q q ps vs (fun o => joinL (ML o))) ∧ Hid (Below wo.heap.size wo wr)) (fun _ _ i _ => 3 - (intOf i).toNat)
          case atStart => exact ⟨0, us, us, rfl, Nat.zero_le _, Lib.hid Two.nil, Lib.hid (Below.refl _ _)⟩
          case round =>
            obtain ⟨q, ps, vs, rfl, hq, HT, HBI⟩ := hrel
            obtain ⟨w9, rfl⟩ : ∃ z : World, z = wr := ⟨_, rfl⟩
            obtain ⟨ca, cc, rfl, _⟩ := HT.out.cr.form
            obtain ⟨ra, rc, rfl, _⟩ := HT.out.rr.form
            by_cases hq3 : q < 3
            · as_aux_lemma =>
              have d5 : decide ((q : Int) < 3) = true := decide_eq_true (by omega)
              have d6 : decide (q < 3) = true := decide_eq_true hq3
              have q3 : IntKind.i64.wrap ((q : Int) + 1) = (q : Int) + 1 := IntWalk.i64_in _ (by omega)
              have hqi : (q : Int) < 3 := by omega
              have hz9 : wo.heap.size ≤ w9.heap.size := HBI.out.size
              have c0 := row_at (HR.out.below HBI.out) hq3
              obtain ⟨ua, uc, hu, _⟩ := (HL.out.row q hq3).form
              have HU := Lib.hid hu
              have HOF := Lib.hid (of_any (ML q) (us q) w9 ((HL.out.below HBI.out).sl hq3) (HLEN.out q hq3) (HBD.out q))
              rw [hu] at HOF c0
              have hobo : ob < w9.heap.size := by omega
              have HCL : Hid (∀ g, (Value.slice ca q cc).ownBlock = some g → g < w9.heap.size) := Lib.hid (fun g hg => (HT.out.cr.lt g hg).2)
              have HRL : Hid (∀ g, (Value.slice ra q rc).ownBlock = some g → g < w9.heap.size) := Lib.hid (fun g hg => (HT.out.rr.lt g hg).2)
              have HVL : Hid (∀ o, o < q → ∀ g, (vs o).ownBlock = some g → g < w9.heap.size) := Lib.hid (fun o ho g hg => (HT.out.ll.lt ho hg).2)
              clear hu
              go_wp2_with (fail)
              refine HOF.out.mono ?_
              rintro e w10 ⟨p, rfl, hcp, hb10⟩
              obtain ⟨pb, pv, rfl, hpb, hpc⟩ := hcp
              obtain ⟨wx, hwx⟩ : ∃ z : World, z = w10.alloc (.cells #[.pointer (some ⟨pb, 0, none⟩)] 41) := ⟨_, rfl⟩
              have hbx : Below w10.heap.size w10 wx := by rw [hwx]; exact (Below.refl _ _).alloc (Nat.le_refl _) _
              have HSX : Hid (Sl wx (w10.heap.size + 1) 1 (.slice (some ⟨w10.heap.size, 0, none⟩) 1 1) 1 [.pointer (some ⟨pb, 0, none⟩)]) := Lib.hid (by rw [hwx]; exact Sl.new w10 1 1 _ 41 rfl)
              have HON : Hid (∀ u ∈ ([.pointer (some ⟨pb, 0, none⟩)] : List Value), u.oneCell' = true) := Lib.hid (by intro u hu; simp at hu; subst hu; rfl)
              have hb9 : Below w9.heap.size w9 wx := hb10.trans (hbx.mono hb10.size)
              have hzx : wo.heap.size ≤ wx.heap.size := Nat.le_trans hz9 hb9.size
              have hz9x := hb9.size
              have HCX : Hid (Chn w9.heap.size wx (.pointer (some ⟨pb, 0, none⟩)) (joinL (ML q))) := Lib.hid ⟨pb, pv, rfl, hpb, hpc.below hbx⟩
              have HTX := Lib.hid (HT.out.below hb9)
              have HBX := Lib.hid (HBI.out.trans (hb9.mono hz9))
              have HWX := Lib.hid hwx
              have HCR := Lib.hid HTX.out.cr
              clear hwx hbx hb10 hpb hpc hb9 HOF c0
              go_wp2_with (at_builtin; rw [← HWX.out]; refine append_rowW (base := wo.heap.size) (size := 1) (xs := pcells q ps) Try.underlying24 info_pch rfl (by decide) rfl _ _ rfl rfl HCR.out rfl HSX.out HON.out ?_ ?_ ?_ ?_; omega; omega; exact hzx)
              intro v7 w7 hr7 hb7 hg7 hw7
              obtain ⟨na, nc, hnv, _⟩ := hr7.form
              subst hnv
              have HT7 := Lib.hid (Two.pushC HTX.out hz9 HCL.out HRL.out HCX.out hr7 hg7 hw7)
              have HB7 := Lib.hid (HBX.out.trans hb7)
              have hz7 : wo.heap.size ≤ w7.heap.size := HB7.out.size
              have hz97 : w9.heap.size ≤ w7.heap.size := Nat.le_trans hz9x hb7.size
              clear hr7 hb7 hg7 hw7 HWX HTX HBX HCR HCX HSX HON hzx
              have c0 := row_at (HR.out.below HB7.out) hq3
              have hob7 : ob < w7.heap.size := by omega
              have HRE := Lib.hid (refs_any (ML q) (us q) w7.heap.size w7 ((HL.out.below HB7.out).sl hq3) (Nat.le_refl _) (Nat.le_trans (HLEN.out q hq3) (by omega)))
              rw [HU.out] at HRE c0
              go_wp2_with (fail)
              refine HRE.out.mono ?_
              rintro e w8 ⟨v8, rfl, hr8, hb8⟩
              obtain ⟨a8, c8, rfl, _⟩ := hr8.form
              have HJO := Lib.hid (rjoin_any (ML q) (.slice a8 (ML q).length c8) w8.heap.size w8 hr8.sl (Nat.le_refl _) (Nat.le_trans (HLEN.out q hq3) (by omega)) (HBD.out q))
              have HB8 := Lib.hid (HB7.out.trans (hb8.mono hz7))
              have HT8 := Lib.hid (HT7.out.below hb8)
              have hz8 : wo.heap.size ≤ w8.heap.size := HB8.out.size
              have hz98 : w9.heap.size ≤ w8.heap.size := Nat.le_trans hz97 hb8.size
              clear hr8 hb8 HRE c0
              go_wp2_with (fail)
              refine HJO.out.mono ?_
              rintro e w11 ⟨v11, rfl, hr11, hb11⟩
              obtain ⟨a11, c11, rfl, _⟩ := hr11.form
              obtain ⟨JL, hJL⟩ : ∃ z, (joinL (ML q)).length = z := ⟨_, rfl⟩
              rw [hJL] at hr11 ⊢
              obtain ⟨wy, hwy⟩ : ∃ z : World, z = w11.alloc (.cells #[.slice a11 JL c11] 39) := ⟨_, rfl⟩
              have hby : Below w11.heap.size w11 wy := by rw [hwy]; exact (Below.refl _ _).alloc (Nat.le_refl _) _
              have HSY : Hid (Sl wy (w11.heap.size + 1) 1 (.slice (some ⟨w11.heap.size, 0, none⟩) 1 1) 1 [.slice a11 JL c11]) := Lib.hid (by rw [hwy]; exact Sl.new w11 1 1 _ 39 rfl)
              have HON : Hid (∀ u ∈ ([.slice a11 JL c11] : List Value), u.oneCell' = true) := Lib.hid (by intro u hu; simp at hu; subst hu; rfl)
              have hb8y : Below w8.heap.size w8 wy := hb11.trans (hby.mono hb11.size)
              have hzy : wo.heap.size ≤ wy.heap.size := Nat.le_trans hz8 hb8y.size
              have HVY : Hid (Row w8.heap.size 34 2 wy (.slice a11 JL c11) (joinL (ML q)).length (lc spC (joinL (ML q)))) := Lib.hid (by rw [hJL]; exact hr11.below hby)
              have HTY := Lib.hid (HT8.out.below hb8y)
              have HBY := Lib.hid (HB8.out.trans (hb8y.mono hz8))
              have HWY := Lib.hid hwy
              have HRR := Lib.hid HTY.out.rr
              have HVL8 : Hid (∀ o, o < q → ∀ g, (vs o).ownBlock = some g → g < w8.heap.size) := Lib.hid (fun o ho g hg => Nat.lt_of_lt_of_le (HVL.out o ho g hg) hz98)
              clear hwy hby hb11 hr11 hb8y HJO hJL
              go_wp2_with (at_builtin; rw [← HWY.out]; refine append_rowW (base := wo.heap.size) (size := 1) (xs := pcells q vs) Try.underlying25 info_lsr rfl (by decide) rfl _ _ rfl rfl HRR.out rfl HSY.out HON.out ?_ ?_ ?_ ?_; omega; omega; exact hzy)
              intro v12 w12 hr12 hb12 hg12 hw12
              obtain ⟨ma, mc, hmv, _⟩ := hr12.form
              subst hmv
              have HT12 := Lib.hid (Two.pushR HTY.out hz8 HVL8.out HVY.out hr12 hg12 hw12)
              have HB12 := Lib.hid (HBY.out.trans hb12)
              clear hr12 hb12 hg12 hw12 HWY HTY HBY HRR HVY HSY HON
              go_wp2_with (fail)
              go_roundw
              case rel => exact ⟨q + 1, _, _, rfl, hq3, HT12, HB12⟩
              case measure => simp [intOf] <;> omega
            · have d5 : decide ((q : Int) < 3) = false := decide_eq_false (by omega)
              have d6 : decide (q < 3) = false := decide_eq_false hq3
              obtain rfl : q = 3 := by omega
              go_wp2_with (fail)
              go_ret2
              rw [HMK.out]
              exact ⟨_, _, vs, rfl, ⟨ps, HT.out.cr.sl, fun o ho => (by
                obtain ⟨b, v, h1, h2, h3, _⟩ := HT.out.ch o ho
                exact ⟨b, v, h1, Nat.zero_le _, h3⟩)⟩, HT.out.rr.mono hzo, HT.out.ll.mono hzo, HB.out.trans (HBI.out.mono hzo)⟩
      · have d1 : decide ((k : Int) < (n : Int)) = false := decide_eq_false (by omega)
        have d2 : decide (k < n) = false := decide_eq_false (by omega)
        as_aux_lemma =>
          go_wp2_with (fail)
          go_loopw [11, 12, 13] (fun cv rv i wr => ∃ (q : Nat) (ps vs : Nat → Value), i = .int .i64 q ∧ q ≤ 3 ∧ Hid (Two wo.heap.size wr cv rv q q ps vs (fun o => joinL (ML o))) ∧ Hid (Below wo.heap.size wo wr)) (fun _ _ i _ => 3 - (intOf i).toNat)
          case atStart => exact ⟨0, us, us, rfl, Nat.zero_le _, Lib.hid Two.nil, Lib.hid (Below.refl _ _)⟩
          case round =>
            obtain ⟨q, ps, vs, rfl, hq, HT, HBI⟩ := hrel
            obtain ⟨w9, rfl⟩ : ∃ z : World, z = wr := ⟨_, rfl⟩
            obtain ⟨ca, cc, rfl, _⟩ := HT.out.cr.form
            obtain ⟨ra, rc, rfl, _⟩ := HT.out.rr.form
            by_cases hq3 : q < 3
            · as_aux_lemma =>
              have d5 : decide ((q : Int) < 3) = true := decide_eq_true (by omega)
              have d6 : decide (q < 3) = true := decide_eq_true hq3
              have q3 : IntKind.i64.wrap ((q : Int) + 1) = (q : Int) + 1 := IntWalk.i64_in _ (by omega)
              have hqi : (q : Int) < 3 := by omega
              have hz9 : wo.heap.size ≤ w9.heap.size := HBI.out.size
              have c0 := row_at (HR.out.below HBI.out) hq3
              obtain ⟨ua, uc, hu, _⟩ := (HL.out.row q hq3).form
              have HU := Lib.hid hu
              have HOF := Lib.hid (of_any (ML q) (us q) w9 ((HL.out.below HBI.out).sl hq3) (HLEN.out q hq3) (HBD.out q))
              rw [hu] at HOF c0
              have hobo : ob < w9.heap.size := by omega
              have HCL : Hid (∀ g, (Value.slice ca q cc).ownBlock = some g → g < w9.heap.size) := Lib.hid (fun g hg => (HT.out.cr.lt g hg).2)
              have HRL : Hid (∀ g, (Value.slice ra q rc).ownBlock = some g → g < w9.heap.size) := Lib.hid (fun g hg => (HT.out.rr.lt g hg).2)
              have HVL : Hid (∀ o, o < q → ∀ g, (vs o).ownBlock = some g → g < w9.heap.size) := Lib.hid (fun o ho g hg => (HT.out.ll.lt ho hg).2)
              clear hu
              go_wp2_with (fail)
              refine HOF.out.mono ?_
              rintro e w10 ⟨p, rfl, hcp, hb10⟩
              obtain ⟨pb, pv, rfl, hpb, hpc⟩ := hcp
              obtain ⟨wx, hwx⟩ : ∃ z : World, z = w10.alloc (.cells #[.pointer (some ⟨pb, 0, none⟩)] 41) := ⟨_, rfl⟩
              have hbx : Below w10.heap.size w10 wx := by rw [hwx]; exact (Below.refl _ _).alloc (Nat.le_refl _) _
              have HSX : Hid (Sl wx (w10.heap.size + 1) 1 (.slice (some ⟨w10.heap.size, 0, none⟩) 1 1) 1 [.pointer (some ⟨pb, 0, none⟩)]) := Lib.hid (by rw [hwx]; exact Sl.new w10 1 1 _ 41 rfl)
              have HON : Hid (∀ u ∈ ([.pointer (some ⟨pb, 0, none⟩)] : List Value), u.oneCell' = true) := Lib.hid (by intro u hu; simp at hu; subst hu; rfl)
              have hb9 : Below w9.heap.size w9 wx := hb10.trans (hbx.mono hb10.size)
              have hzx : wo.heap.size ≤ wx.heap.size := Nat.le_trans hz9 hb9.size
              have hz9x := hb9.size
              have HCX : Hid (Chn w9.heap.size wx (.pointer (some ⟨pb, 0, none⟩)) (joinL (ML q))) := Lib.hid ⟨pb, pv, rfl, hpb, hpc.below hbx⟩
              have HTX := Lib.hid (HT.out.below hb9)
              have HBX := Lib.hid (HBI.out.trans (hb9.mono hz9))
              have HWX := Lib.hid hwx
              have HCR := Lib.hid HTX.out.cr
              clear hwx hbx hb10 hpb hpc hb9 HOF c0
              go_wp2_with (at_builtin; rw [← HWX.out]; refine append_rowW (base := wo.heap.size) (size := 1) (xs := pcells q ps) Try.underlying24 info_pch rfl (by decide) rfl _ _ rfl rfl HCR.out rfl HSX.out HON.out ?_ ?_ ?_ ?_; omega; omega; exact hzx)
              intro v7 w7 hr7 hb7 hg7 hw7
              obtain ⟨na, nc, hnv, _⟩ := hr7.form
              subst hnv
              have HT7 := Lib.hid (Two.pushC HTX.out hz9 HCL.out HRL.out HCX.out hr7 hg7 hw7)
              have HB7 := Lib.hid (HBX.out.trans hb7)
              have hz7 : wo.heap.size ≤ w7.heap.size := HB7.out.size
              have hz97 : w9.heap.size ≤ w7.heap.size := Nat.le_trans hz9x hb7.size
              clear hr7 hb7 hg7 hw7 HWX HTX HBX HCR HCX HSX HON hzx
              have c0 := row_at (HR.out.below HB7.out) hq3
              have hob7 : ob < w7.heap.size := by omega
              have HRE := Lib.hid (refs_any (ML q) (us q) w7.heap.size w7 ((HL.out.below HB7.out).sl hq3) (Nat.le_refl _) (Nat.le_trans (HLEN.out q hq3) (by omega)))
              rw [HU.out] at HRE c0
              go_wp2_with (fail)
              refine HRE.out.mono ?_
              rintro e w8 ⟨v8, rfl, hr8, hb8⟩
              obtain ⟨a8, c8, rfl, _⟩ := hr8.form
              have HJO := Lib.hid (rjoin_any (ML q) (.slice a8 (ML q).length c8) w8.heap.size w8 hr8.sl (Nat.le_refl _) (Nat.le_trans (HLEN.out q hq3) (by omega)) (HBD.out q))
              have HB8 := Lib.hid (HB7.out.trans (hb8.mono hz7))
              have HT8 := Lib.hid (HT7.out.below hb8)
              have hz8 : wo.heap.size ≤ w8.heap.size := HB8.out.size
              have hz98 : w9.heap.size ≤ w8.heap.size := Nat.le_trans hz97 hb8.size
              clear hr8 hb8 HRE c0
              go_wp2_with (fail)
              refine HJO.out.mono ?_
              rintro e w11 ⟨v11, rfl, hr11, hb11⟩
              obtain ⟨a11, c11, rfl, _⟩ := hr11.form
              obtain ⟨JL, hJL⟩ : ∃ z, (joinL (ML q)).length = z := ⟨_, rfl⟩
              rw [hJL] at hr11 ⊢
              obtain ⟨wy, hwy⟩ : ∃ z : World, z = w11.alloc (.cells #[.slice a11 JL c11] 39) := ⟨_, rfl⟩
              have hby : Below w11.heap.size w11 wy := by rw [hwy]; exact (Below.refl _ _).alloc (Nat.le_refl _) _
              have HSY : Hid (Sl wy (w11.heap.size + 1) 1 (.slice (some ⟨w11.heap.size, 0, none⟩) 1 1) 1 [.slice a11 JL c11]) := Lib.hid (by rw [hwy]; exact Sl.new w11 1 1 _ 39 rfl)
              have HON : Hid (∀ u ∈ ([.slice a11 JL c11] : List Value), u.oneCell' = true) := Lib.hid (by intro u hu; simp at hu; subst hu; rfl)
              have hb8y : Below w8.heap.size w8 wy := hb11.trans (hby.mono hb11.size)
              have hzy : wo.heap.size ≤ wy.heap.size := Nat.le_trans hz8 hb8y.size
              have HVY : Hid (Row w8.heap.size 34 2 wy (.slice a11 JL c11) (joinL (ML q)).length (lc spC (joinL (ML q)))) := Lib.hid (by rw [hJL]; exact hr11.below hby)
              have HTY := Lib.hid (HT8.out.below hb8y)
              have HBY := Lib.hid (HB8.out.trans (hb8y.mono hz8))
              have HWY := Lib.hid hwy
              have HRR := Lib.hid HTY.out.rr
              have HVL8 : Hid (∀ o, o < q → ∀ g, (vs o).ownBlock = some g → g < w8.heap.size) := Lib.hid (fun o ho g hg => Nat.lt_of_lt_of_le (HVL.out o ho g hg) hz98)
              clear hwy hby hb11 hr11 hb8y HJO hJL
              go_wp2_with (at_builtin; rw [← HWY.out]; refine append_rowW (base := wo.heap.size) (size := 1) (xs := pcells q vs) Try.underlying25 info_lsr rfl (by decide) rfl _ _ rfl rfl HRR.out rfl HSY.out HON.out ?_ ?_ ?_ ?_; omega; omega; exact hzy)
              intro v12 w12 hr12 hb12 hg12 hw12
              obtain ⟨ma, mc, hmv, _⟩ := hr12.form
              subst hmv
              have HT12 := Lib.hid (Two.pushR HTY.out hz8 HVL8.out HVY.out hr12 hg12 hw12)
              have HB12 := Lib.hid (HBY.out.trans hb12)
              clear hr12 hb12 hg12 hw12 HWY HTY HBY HRR HVY HSY HON
              go_wp2_with (fail)
              go_roundw
              case rel => exact ⟨q + 1, _, _, rfl, hq3, HT12, HB12⟩
              case measure => simp [intOf] <;> omega
            · have d5 : decide ((q : Int) < 3) = false := decide_eq_false (by omega)
              have d6 : decide (q < 3) = false := decide_eq_false hq3
              obtain rfl : q = 3 := by omega
              go_wp2_with (fail)
              go_ret2
              rw [HMK.out]
              exact ⟨_, _, vs, rfl, ⟨ps, HT.out.cr.sl, fun o ho => (by
                obtain ⟨b, v, h1, h2, h3, _⟩ := HT.out.ch o ho
                exact ⟨b, v, h1, Nat.zero_le _, h3⟩)⟩, HT.out.rr.mono hzo, HT.out.ll.mono hzo, HB.out.trans (HBI.out.mono hzo)⟩
end Go.Proofs.Ytfnaoekkdgndkaa
