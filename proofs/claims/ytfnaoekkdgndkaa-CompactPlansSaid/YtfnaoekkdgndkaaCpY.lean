/- The law CompactPlans, walked. -/
import Derived.Test.YtfnaoekkdgndkaaCpP
namespace Go.Proofs.Ytfnaoekkdgndkaa
set_option maxRecDepth 100000
set_option linter.unusedVariables false
set_option linter.unusedSimpArgs false
open Go.RowKit
set_option maxHeartbeats 16000000 in
theorem plans_any (L : List (Nat × Nat × Nat)) (n tn : Nat) (v : Value) (w : World) (h : Sl w w.heap.size 3 v n (lc gpC L)) (hL : n = L.length) (hG : ∀ x ∈ L, x.1 < 256 ∧ x.2.1 < 256 ∧ x.2.2 < 256) (htn : tn < 256) (hn : n ≤ maxLen) :
    Calls Try.prog 3 #[v, .int .u8 (tn : Nat)] w fun e w' => e = .returned (.bool true) ∧ Below w.heap.size w w' := by
  obtain ⟨a, cap, rfl, hcap⟩ := h.form
  have HAW := Lib.hid (awake_any w)
  have HMA := Lib.hid (fun (W : World) (hW : Below w.heap.size w W) => made_any L n tn (.slice a n cap) W ((h.below hW).mono hW.size) hL hG htn hn)
  obtain ⟨ls, hls⟩ : ∃ z, madeL (atG L) tn (min n 40) = z := ⟨_, rfl⟩
  have HWF : Hid (WF ls 3) := Lib.hid (by rw [← hls]; exact made_wf _ _ _)
  have HSUM : Hid (sumL ls 3 ≤ 1000) := Lib.hid (by rw [← hls]; exact Nat.le_trans (made_sum _ _ _) (by omega))
  have HBD : Hid (∀ o, o < 3 → BdS (ls o)) := Lib.hid (fun o _ => by rw [← hls]; exact (made_bd _ _ _ (by omega) o).join)
  have HLN : Hid (∀ o, o < 3 → (ls o).length ≤ 1000) := Lib.hid (fun o ho => by have := HSUM.out; rw [sumL3] at this; rcases (show o = 0 ∨ o = 1 ∨ o = 2 by omega) with rfl | rfl | rfl <;> omega)
  rw [hls] at HMA
  clear hls h hL hG htn hn
  go_enter Try.func3, Try.ntmps3
  go_wp2_with (fail)
  refine HAW.out.mono ?_
  rintro e w1 ⟨rfl, hb1⟩
  have HM1 := Lib.hid (HMA.out w1 hb1)
  have HB1 := Lib.hid hb1
  clear hb1 HAW HMA hcap
  go_wp2_with (fail)
  refine HM1.out.mono ?_
  rintro e w2 ⟨v1, v2, us, rfl, hch, hrow, hll, hb2⟩
  have HPL := Lib.hid (plan_own 3 ls v1 w2 hch HWF.out (by omega) HSUM.out HBD.out)
  obtain ⟨pps, hps, _⟩ := hch
  obtain ⟨a1, c1, rfl, _⟩ := hps.form
  rcases row_form hrow with ⟨_, h0, _⟩ | ⟨rb, rc, rfl, _, hrb, _⟩
  · omega
  have HR2 := Lib.hid hrow
  have HL2 := Lib.hid hll
  have HUL : Hid (∀ o, o < 3 → ∀ g, (us o).ownBlock = some g → g < w2.heap.size) := Lib.hid (fun o ho g hg => (hll.lt ho hg).2)
  have HB2 := Lib.hid (HB1.out.trans (hb2.mono HB1.out.size))
  clear hps hrow hll hb2 HM1 hrb
  go_wp2_with (fail)
  refine HPL.out.mono ?_
  rintro e w3 ⟨v3, v4, ps, rfl, hmv, hnow, hcs, hb3⟩
  have hz23 := hb3.size
  have HR3 := Lib.hid (HR2.out.below hb3)
  have HL3 := Lib.hid (HL2.out.below hb3)
  have HPI := Lib.hid (pieces_any 3 ls us _ w3.heap.size w3 HR3.out.sl (Nat.le_refl _) (fun o ho => HL3.out.sl ho) (by omega) HSUM.out)
  obtain ⟨N, hN⟩ : ∃ z, sumL ls 3 = z := ⟨_, rfl⟩
  have HN0 := Lib.hid hN
  have hN1000 : N ≤ 1000 := by have := HSUM.out; omega
  rw [hN] at hmv hcs HPI
  obtain ⟨MV, hMV⟩ : ∃ z, (PL ls 3 N).mv = z := ⟨_, rfl⟩
  have HMV0 := Lib.hid hMV
  rw [hMV] at hmv
  obtain ⟨M, hM⟩ : ∃ z, MV.length = z := ⟨_, rfl⟩
  have HM0 := Lib.hid hM
  have hM1000 : M ≤ 1000 := by rw [← hM, ← hMV]; exact Nat.le_trans (PL_len _ _ _) hN1000
  rw [hM] at hmv
  obtain ⟨a3, c3, rfl, _⟩ := hmv.form
  rcases row_form hnow with ⟨_, h0, _⟩ | ⟨nb, nc, rfl, _, hnb, _⟩
  · omega
  have HM3 := Lib.hid hmv
  have HN3 := Lib.hid hnow
  have HC3 := Lib.hid hcs
  have HB3 := Lib.hid (HB2.out.trans (hb3.mono HB2.out.size))
  clear hN hMV hM hmv hnow hcs hb3 HPL HR2 HL2
  go_wp2_with (fail)
  refine HPI.out.mono ?_
  rintro e w4 ⟨v5, rfl, hpc, hb4⟩
  obtain ⟨a5, c5, rfl, _⟩ := hpc.form
  have HR4 := Lib.hid (HR3.out.below hb4)
  have HL4 := Lib.hid (HL3.out.below hb4)
  have HM4 := Lib.hid (HM3.out.below hb4)
  have HN4 := Lib.hid (HN3.out.below hb4)
  have HC4 : Hid (∀ o, o < 3 → Chn w2.heap.size w4 (ps o) (joinL ((PL ls 3 N).ls o))) := Lib.hid (fun o ho => (HC3.out o ho).below hb4)
  have HP4 := Lib.hid hpc
  have HB4 := Lib.hid (HB3.out.trans (hb4.mono HB3.out.size))
  clear hpc hb4 HPI HR3 HL3 HM3 HN3 HC3
  go_wp2_with (fail)
  go_loopw [10, 11, 12, 13] (fun t k c i wr => ∃ q : Nat, i = .int .i64 q ∧ q ≤ N ∧ t = .int .i64 (lenN (atP (pcs ls 3)) q : Nat) ∧ k = .int .i64 ((PL ls 3 q).mv.length : Nat) ∧ c = .int .i64 (costL (PL ls 3 q).mv : Nat) ∧ Hid (Row w1.heap.size 39 1 wr (.slice (some ⟨rb, 0, none⟩) 3 rc) 3 (pcells 3 us)) ∧ Hid (LL w1.heap.size 34 wr 3 us (PL ls 3 q).ls) ∧ Hid (Row w2.heap.size 38 3 wr (.slice a3 M c3) M (lc mvC MV)) ∧ Hid (Row w2.heap.size 41 1 wr (.slice (some ⟨nb, 0, none⟩) 3 nc) 3 (pcells 3 ps)) ∧ Hid (∀ o, o < 3 → Chn w2.heap.size wr (ps o) (joinL ((PL ls 3 N).ls o))) ∧ Hid (Row w3.heap.size 36 4 wr (.slice a5 N c5) N (lc pcC (pcs ls 3))) ∧ Hid (Below w.heap.size w wr)) (fun _ _ _ i _ => N - (intOf i).toNat)
  case atStart => exact ⟨0, rfl, Nat.zero_le _, rfl, rfl, rfl, HR4, HL4, HM4, HN4, HC4, HP4, HB4⟩
  case round =>
    clear HR4 HL4 HM4 HN4 HC4 HP4 HB4
    obtain ⟨q, rfl, hq, rfl, rfl, rfl, HR, HL, HM, HN, HC, HP, HB⟩ := hrel
    obtain ⟨w9, rfl⟩ : ∃ z : World, z = wr := ⟨_, rfl⟩
    by_cases hqN : q < N
    · as_aux_lemma =>
      have d1 : decide (q < N) = true := decide_eq_true hqN
      have d2 : decide ((q : Int) < (N : Int)) = true := decide_eq_true (by omega)
      have q2 : IntKind.i64.wrap ((q : Int) + 1) = (q : Int) + 1 := IntWalk.i64_in _ (by omega)
      have hbq : (q : Int) < (N : Int) := by omega
      rcases row_form HP.out with ⟨_, h0, _⟩ | ⟨pb, pc, he, _, hpb3, _⟩
      · omega
      injection he with he1 _ he2
      subst he1 he2
      have hpg := atP_get (l := pcs ls 3) (j := q) (by rw [pcs_len, HN0.out]; exact hqN)
      obtain ⟨o, i, ho3, hi, hp⟩ := pcs_is ls 3 (k := q) (by rw [HN0.out]; exact hqN)
      have hto := PL_le HWF.out (k := q) (by rw [HN0.out]; exact hqN)
      have hpb := piece_bd HBD.out (k := q) (by rw [HN0.out]; exact hqN)
      have hcost := PL_cost (ls := ls) (n := 3) q
      have hls := PL_lens ls 3 q o
      have hnth := PL_nth (ls := ls) (n := 3) (k := q) (by rw [HN0.out]; exact hqN)
      obtain ⟨hn1, hn2⟩ := PL_step ls 3 q _ hp
      have hto1 : lenN (atP (pcs ls 3)) (q + 1) = lenN (atP (pcs ls 3)) q + (atP (pcs ls 3) q).l := rfl
      rw [HN0.out, HMV0.out] at hnth
      rw [hp] at hpg hto hpb hto1 hnth
      simp only [pcOf] at hpg hto hpb hn1 hn2 hto1 hnth
      generalize (atS (ls o) i).1 = A at *
      generalize (atS (ls o) i).2 = L' at *
      generalize lenN (atP (pcs ls 3)) q = T at *
      have HPG := Lib.hid hpg
      obtain ⟨c0, c1, c2, c3⟩ := pc_row HP.out (by rw [pcs_len]; exact HN0.out.symm) hpg
      simp only at c0 c1 c2 c3
      have HT1 := Lib.hid hto1
      have HN1 := Lib.hid hn1
      have HN2 := Lib.hid hn2
      have HNT := Lib.hid hnth
      have HI : Hid (i < ((PL ls 3 q).ls o).length) := Lib.hid (by rw [hls]; exact hi)
      obtain ⟨g, gc, hu, hgb, hgl⟩ := HL.out.form ho3 (by have := HI.out; omega)
      have hg2 := HUL.out o ho3 g (by rw [hu]; rfl)
      have hg3 : g < w3.heap.size := by omega
      have u0 := row_at HR.out ho3
      obtain ⟨ml, hml0⟩ : ∃ z, ((PL ls 3 q).ls o).length = z := ⟨_, rfl⟩
      have HML0 := Lib.hid hml0
      rw [hml0] at hu HI
      rw [hu] at u0
      have HU := Lib.hid hu
      have hrow := HL.out.row o ho3
      rw [hu, hml0] at hrow
      obtain ⟨k0, _⟩ := sp_row hrow hml0.symm (atS_get (l := (PL ls 3 q).ls o) (j := i) (by rw [hml0]; exact HI.out))
      obtain ⟨K, hK⟩ : ∃ z, (PL ls 3 q).mv.length = z := ⟨_, rfl⟩
      obtain ⟨C, hC⟩ : ∃ z, costL (PL ls 3 q).mv = z := ⟨_, rfl⟩
      have HK := Lib.hid hK
      have HC0 := Lib.hid hC
      rw [hK, hC]
      rw [hC] at hcost
      have hil : i < ml := HI.out
      have hil2 : (i : Int) < (ml : Int) := by omega
      have hoj2 : (o : Int) < 3 := by omega
      have q3 : IntKind.i64.wrap ((T : Int) + (L' : Int)) = ((T + L' : Nat) : Int) := by rw [IntWalk.i64_in _ (by omega)]; omega
      clear hto1 hn1 hn2 hls hi hp hu hml0 hrow hnth hK hC hpg
      by_cases hat : A = T
      · have d5 : ((A : Int) != (T : Int)) = false := by simp; omega
        have d6 : (A != T) = false := by simpa using hat
        have HNX : Hid (PL ls 3 (q + 1) = ⟨T + L', (PL ls 3 q).mv, setL (PL ls 3 q).ls o i T⟩) := Lib.hid (HN1.out hat)
        clear hat
        have hrow := HL.out.row o ho3
        rw [HU.out, HML0.out] at hrow
        have f0 := hrow.frozenAt (i * 2)
        clear hrow
        go_upto_region 15 with (fail)
        go_region
        all_goals
          have hD : Below (w9.setCell ⟨g, i * 2, none⟩ (.int .i64 (T : Nat))).heap.size (w9.setCell ⟨g, i * 2, none⟩ (.int .i64 (T : Nat))) (w9.setCell ⟨g, i * 2, none⟩ (.int .i64 (T : Nat))).drew := (Below.refl _ _).drew
          have HR := Lib.hid ((HR.out.setc (c := g) (fun e => Row.ne_block HR.out (HL.out.row o ho3) (by decide) e (by rw [HU.out]; rfl)) (i * 2) (.int .i64 (T : Nat))).below hD)
          have HL := Lib.hid ((HL.out.store T ho3 HU.out (by rw [HML0.out]; exact hil)).below hD)
          have HM := Lib.hid ((HM.out.other (c := g) hg2 (i * 2) (.int .i64 (T : Nat))).below hD)
          have HN := Lib.hid ((HN.out.other (c := g) hg2 (i * 2) (.int .i64 (T : Nat))).below hD)
          have HC : Hid (∀ o, o < 3 → Chn w2.heap.size (w9.setCell ⟨g, i * 2, none⟩ (.int .i64 (T : Nat))).drew (ps o) (joinL ((PL ls 3 N).ls o))) := Lib.hid (fun o ho => ((HC.out o ho).setC (c := g) hg2 (i * 2) (.int .i64 (T : Nat))).below hD)
          have HP := Lib.hid ((HP.out.other (c := g) hg3 (i * 2) (.int .i64 (T : Nat))).below hD)
          have HB := Lib.hid ((HB.out.setCell (p := ⟨g, i * 2, none⟩) (by have := HB1.out.size; show w.heap.size ≤ g; omega) (.int .i64 (T : Nat))).trans (hD.mono (by simpa using HB.out.size)))
          clear c0 c1 c2 c3 f0 k0 u0 hD 
          obtain ⟨c0, c1, c2, c3⟩ := pc_row HP.out (by rw [pcs_len]; exact HN0.out.symm) HPG.out
          simp only at c0 c1 c2 c3
          generalize (w9.setCell ⟨g, i * 2, none⟩ (.int .i64 (T : Nat))).drew = w8 at *
          go_wp2_with (fail)
          go_roundw
          case rel => exact ⟨q + 1, rfl, hqN, by rw [HT1.out]; exact congrArg (Value.int .i64) (by omega), by rw [HNX.out]; exact congrArg (fun z : Nat => Value.int .i64 (z : Int)) HK.out.symm, by rw [HNX.out]; exact congrArg (fun z : Nat => Value.int .i64 (z : Int)) HC0.out.symm, HR, Lib.hid (by rw [HNX.out]; exact HL.out), HM, HN, HC, HP, HB⟩
          case measure => simp [intOf] <;> omega
      · have d5 : ((A : Int) != (T : Int)) = true := by simp; omega
        have d6 : (A != T) = true := by simpa using hat
        have HNX : Hid (PL ls 3 (q + 1) = ⟨T + L', (PL ls 3 q).mv ++ [⟨A, T, L'⟩], setL (PL ls 3 q).ls o i T⟩) := Lib.hid (HN2.out hat)
        have hmg := HNT.out hat
        rw [HK.out] at hmg
        have hKM : K < M := by
          have := (List.getElem?_eq_some_iff.1 hmg).1
          rwa [HM0.out] at this
        have d7 : decide (M ≤ K) = false := decide_eq_false (by omega)
        have d8 : decide ((M : Int) ≤ (K : Int)) = false := decide_eq_false (by omega)
        have hKM2 : (K : Int) < (M : Int) := by omega
        rcases row_form HM.out with ⟨_, h0, _⟩ | ⟨mb, mc, he, _, hmb, _⟩
        · omega
        injection he with he1 _ he2
        subst he1 he2
        obtain ⟨m0, m1, m2⟩ := mv_row HM.out HM0.out.symm hmg
        simp only at m0 m1 m2
        have q4 : IntKind.i64.wrap ((K : Int) + 1) = ((K + 1 : Nat) : Int) := by rw [IntWalk.i64_in _ (by omega)]; omega
        have q5 : IntKind.i64.wrap ((C : Int) + (L' : Int)) = ((C + L' : Nat) : Int) := by rw [IntWalk.i64_in _ (by omega)]; omega
        clear hat hmg
        go_upto_region 11 with (fail)
        go_quiet (fail)
        have hdn := below_drewN (Below.refl w9.heap.size w9) nq
        have HR := Lib.hid (HR.out.below hdn)
        have HL := Lib.hid (HL.out.below hdn)
        have HM := Lib.hid (HM.out.below hdn)
        have HN := Lib.hid (HN.out.below hdn)
        have HC : Hid (∀ o, o < 3 → Chn w2.heap.size (w9.drewN nq) (ps o) (joinL ((PL ls 3 N).ls o))) := Lib.hid (fun o ho => (HC.out o ho).below hdn)
        have HP := Lib.hid (HP.out.below hdn)
        have HB := Lib.hid (HB.out.trans (hdn.mono HB.out.size))
        clear c0 c1 c2 c3 u0 k0 m0 m1 m2 hdn
        generalize w9.drewN nq = wd at *
        obtain ⟨c0, c1, c2, c3⟩ := pc_row HP.out (by rw [pcs_len]; exact HN0.out.symm) HPG.out
        simp only at c0 c1 c2 c3
        have u0 := row_at HR.out ho3
        rw [HU.out] at u0
        have hrow := HL.out.row o ho3
        rw [HU.out, HML0.out] at hrow
        obtain ⟨k0, _⟩ := sp_row hrow HML0.out.symm (atS_get (l := (PL ls 3 q).ls o) (j := i) (by rw [HML0.out]; exact hil))
        clear hrow
        have hrow := HL.out.row o ho3
        rw [HU.out, HML0.out] at hrow
        have f0 := hrow.frozenAt (i * 2)
        clear hrow
        go_upto_region 15 with (fail)
        go_region
        all_goals
          have hD : Below (wd.setCell ⟨g, i * 2, none⟩ (.int .i64 (T : Nat))).heap.size (wd.setCell ⟨g, i * 2, none⟩ (.int .i64 (T : Nat))) (wd.setCell ⟨g, i * 2, none⟩ (.int .i64 (T : Nat))).drew := (Below.refl _ _).drew
          have HR := Lib.hid ((HR.out.setc (c := g) (fun e => Row.ne_block HR.out (HL.out.row o ho3) (by decide) e (by rw [HU.out]; rfl)) (i * 2) (.int .i64 (T : Nat))).below hD)
          have HL := Lib.hid ((HL.out.store T ho3 HU.out (by rw [HML0.out]; exact hil)).below hD)
          have HM := Lib.hid ((HM.out.other (c := g) hg2 (i * 2) (.int .i64 (T : Nat))).below hD)
          have HN := Lib.hid ((HN.out.other (c := g) hg2 (i * 2) (.int .i64 (T : Nat))).below hD)
          have HC : Hid (∀ o, o < 3 → Chn w2.heap.size (wd.setCell ⟨g, i * 2, none⟩ (.int .i64 (T : Nat))).drew (ps o) (joinL ((PL ls 3 N).ls o))) := Lib.hid (fun o ho => ((HC.out o ho).setC (c := g) hg2 (i * 2) (.int .i64 (T : Nat))).below hD)
          have HP := Lib.hid ((HP.out.other (c := g) hg3 (i * 2) (.int .i64 (T : Nat))).below hD)
          have HB := Lib.hid ((HB.out.setCell (p := ⟨g, i * 2, none⟩) (by have := HB1.out.size; show w.heap.size ≤ g; omega) (.int .i64 (T : Nat))).trans (hD.mono (by simpa using HB.out.size)))
          clear c0 c1 c2 c3 f0 k0 u0 hD 
          obtain ⟨c0, c1, c2, c3⟩ := pc_row HP.out (by rw [pcs_len]; exact HN0.out.symm) HPG.out
          simp only at c0 c1 c2 c3
          generalize (wd.setCell ⟨g, i * 2, none⟩ (.int .i64 (T : Nat))).drew = w8 at *
          go_wp2_with (fail)
          go_roundw
          case rel => exact ⟨q + 1, rfl, hqN, by rw [HT1.out]; exact congrArg (Value.int .i64) (by omega), by rw [HNX.out]; show Value.int .i64 ((K + 1 : Nat) : Int) = .int .i64 (((PL ls 3 q).mv ++ [(⟨A, T, L'⟩ : Mv)]).length : Nat); rw [List.length_append, HK.out]; rfl, by rw [HNX.out]; show Value.int .i64 ((C + L' : Nat) : Int) = .int .i64 (costL ((PL ls 3 q).mv ++ [(⟨A, T, L'⟩ : Mv)]) : Nat); rw [costL_snoc, HC0.out], HR, Lib.hid (by rw [HNX.out]; exact HL.out), HM, HN, HC, HP, HB⟩
          case measure => simp [intOf] <;> omega
    · have d1 : decide (q < N) = false := decide_eq_false hqN
      have d2 : decide ((q : Int) < (N : Int)) = false := decide_eq_false (by omega)
      obtain rfl : q = N := by omega
      rw [HMV0.out, HM0.out]
      have HMB : Hid (∀ m ∈ MV, m.l ≤ 1099511627776) := Lib.hid (fun m hm => by
        rw [← HMV0.out] at hm
        obtain ⟨j, hj, rfl⟩ := PL_mem q m hm
        have h1 := piece_bd HBD.out (k := j) (by rw [HN0.out]; exact hj)
        show (atP (pcs ls 3) j).l ≤ _
        omega)
      have HCO := Lib.hid (cost_any MV (.slice a3 M c3) w9 (by rw [HM0.out]; exact HM.out.sl) (by rw [HM0.out]; exact hM1000) HMB.out)
      obtain ⟨C, hC⟩ : ∃ z, costL MV = z := ⟨_, rfl⟩
      rw [hC] at HCO ⊢
      have d3 : ((M : Int) != (M : Int)) = false := by simp
      have d4 : (M != M) = false := by simp
      have d5 : ((C : Int) != (C : Int)) = false := by simp
      have d6 : (C != C) = false := by simp
      clear hC hqN
      go_wp2_with (fail)
      refine HCO.out.mono ?_
      rintro e w10 ⟨rfl, hb10⟩
      have HR := Lib.hid (HR.out.below hb10)
      have HL := Lib.hid (HL.out.below hb10)
      have HN := Lib.hid (HN.out.below hb10)
      have HC : Hid (∀ o, o < 3 → Chn w2.heap.size w10 (ps o) (joinL ((PL ls 3 q).ls o))) := Lib.hid (fun o ho => (HC.out o ho).below hb10)
      have HB10 := Lib.hid (HB.out.trans (hb10.mono HB.out.size))
      clear hb10 HCO HM HP HB
      go_wp2_with (fail)
      go_loopw [14] (fun i wr => ∃ o : Nat, i = .int .i64 o ∧ o ≤ 3 ∧ Hid (Below w10.heap.size w10 wr)) (fun i _ => 3 - (intOf i).toNat)
      case atStart => exact ⟨0, rfl, Nat.zero_le _, Lib.hid (Below.refl _ _)⟩
      case round =>
        obtain ⟨o, rfl, ho, HB⟩ := hrel
        obtain ⟨w11, rfl⟩ : ∃ z : World, z = wr := ⟨_, rfl⟩
        by_cases ho3 : o < 3
        · as_aux_lemma =>
          have d7 : decide (o < 3) = true := decide_eq_true ho3
          have d8 : decide ((o : Int) < 3) = true := decide_eq_true (by omega)
          have q2 : IntKind.i64.wrap ((o : Int) + 1) = (o : Int) + 1 := IntWalk.i64_in _ (by omega)
          have hoi : (o : Int) < 3 := by omega
          have hzb := HB.out.size
          obtain ⟨X, hX⟩ : ∃ z, joinL ((PL ls 3 q).ls o) = z := ⟨_, rfl⟩
          obtain ⟨J, hJ⟩ : ∃ z, X.length = z := ⟨_, rfl⟩
          have HX : Hid (joinL (plL ls 3 o) = X) := Lib.hid (by rw [← hX]; unfold plL; rw [HN0.out])
          have HQL : Hid ((plL ls 3 o).length ≤ 1000) := Lib.hid (by rw [plL_len]; exact HLN.out o ho3)
          have HJ := Lib.hid hJ
          have HJ1 : Hid (J ≤ 1000) := Lib.hid (by rw [← hJ, ← HX.out]; exact Nat.le_trans (join_len _) HQL.out)
          have HBP : Hid (BdS (plL ls 3 o)) := Lib.hid (PL_bd HWF.out HBD.out _ (Nat.le_refl _) o ho3)
          have hJ1000 := HJ1.out
          obtain ⟨pb, pv, hpe, hpb, hpc⟩ := HC.out o ho3
          have HC2 : Hid (∀ W, Below w11.heap.size w11 W → Chn w2.heap.size W (.pointer (some ⟨pb, 0, none⟩)) X) := Lib.hid (fun W hW => by rw [← hX, ← hpe]; exact (HC.out o ho3).below (HB.out.trans (hW.mono hzb)))
          have KP : Hid (∀ W, Below w11.heap.size w11 W → W.cell? ⟨nb, o, none⟩ = some (.pointer (some ⟨pb, 0, none⟩))) := Lib.hid (fun W hW => by rw [← hpe]; exact row_at (HN.out.below (HB.out.trans (hW.mono hzb))) ho3)
          obtain ⟨ua, uc, hu, _⟩ := (HL.out.row o ho3).form
          have KU : Hid (∀ W, Below w11.heap.size w11 W → W.cell? ⟨rb, o, none⟩ = some (.slice ua ((PL ls 3 q).ls o).length uc)) := Lib.hid (fun W hW => by rw [← hu]; exact row_at (HR.out.below (HB.out.trans (hW.mono hzb))) ho3)
          have HQ : Hid (∀ W, Below w11.heap.size w11 W → Sl W W.heap.size 2 (.slice ua ((PL ls 3 q).ls o).length uc) (plL ls 3 o).length (lc spC (plL ls 3 o))) := Lib.hid (fun W hW => by
            have h1 := (HL.out.below (HB.out.trans (hW.mono hzb))).sl ho3
            rw [hu] at h1
            unfold plL
            rw [HN0.out]
            exact h1)
          obtain ⟨U, hU⟩ : ∃ z, ((PL ls 3 q).ls o).length = z := ⟨_, rfl⟩
          rw [hU] at KU HQ
          clear hX hJ hpe hpb hpc hu hU
          go_upto_region 22 with (fail)
          refine Mono.region_below (by kernel_rfl) (by kernel_rfl) (by kernel_rfl) ?_
          refine Mono.rgl_val (v := ?vs0) rfl Mono.rr (fun ρ a W hR hd hf => ?hs0) ?_
          case hs0 =>
            have e8 := Mono.init_get hf (t := 8) (by kernel_rfl)
            clear hd hf
            (go_simp; try with_reducible rfl)
          refine Mono.rgl_val (v := ?vs1) rfl Mono.rr (fun ρ a W hR hd hf => ?hs1) ?_
          case hs1 =>
            have e14 := Mono.init_get hf (t := 14) (by kernel_rfl)
            clear hd hf
            (go_simp; try with_reducible rfl)
          refine Mono.rgl_val (v := ?vs2) rfl Mono.rr (fun ρ a W hR hd hf => ?hs2) ?_
          case hs2 =>
            have e126 := Mono.dep_val hd hf (t := 126) (k := 0) (by kernel_rfl) rfl
            have e127 := Mono.dep_val hd hf (t := 127) (k := 1) (by kernel_rfl) rfl
            clear hd hf
            (go_simp; try with_reducible rfl)
          refine Mono.rgl_val (v := ?vs3) rfl Mono.rr (fun ρ a W hR hd hf => ?hs3) ?_
          case hs3 =>
            have e128 := Mono.dep_val hd hf (t := 128) (k := 2) (by kernel_rfl) rfl
            have hk := KP.out W hR
            clear hd hf
            (go_simp; try with_reducible rfl)
          refine Mono.rgl_val (v := ?vs4) rfl Mono.rr (fun ρ a W hR hd hf => ?hs4) ?_
          case hs4 =>
            have e129 := Mono.dep_val hd hf (t := 129) (k := 3) (by kernel_rfl) rfl
            clear hd hf
            (go_simp; try with_reducible rfl)
          refine Mono.rgl_val (v := ?vs5) rfl Mono.rr (fun ρ a W hR hd hf => ?hs5) ?_
          case hs5 =>
            have e130 := Mono.dep_val hd hf (t := 130) (k := 4) (by kernel_rfl) rfl
            clear hd hf
            (go_simp; try with_reducible rfl)
          refine Mono.rgl_valg (v := ?vs6) rfl Mono.rr (fun ρ W hd => Mono.guard_val hd (t := 131) (k := 5) (by kernel_rfl) rfl) (fun ρ a W hR hd hf => ?hs6) ?_
          case hs6 =>
            have e8 := Mono.init_get hf (t := 8) (by kernel_rfl)
            clear hd hf
            (go_simp; try with_reducible rfl)
          refine Mono.rgl_valg (v := ?vs7) rfl Mono.rr (fun ρ W hd => Mono.guard_val hd (t := 131) (k := 5) (by kernel_rfl) rfl) (fun ρ a W hR hd hf => ?hs7) ?_
          case hs7 =>
            have e14 := Mono.init_get hf (t := 14) (by kernel_rfl)
            clear hd hf
            (go_simp; try with_reducible rfl)
          refine Mono.rgl_valg (v := ?vs8) rfl Mono.rr (fun ρ W hd => Mono.guard_val hd (t := 131) (k := 5) (by kernel_rfl) rfl) (fun ρ a W hR hd hf => ?hs8) ?_
          case hs8 =>
            have e132 := Mono.dep_val hd hf (t := 132) (k := 6) (by kernel_rfl) rfl
            have e133 := Mono.dep_val hd hf (t := 133) (k := 7) (by kernel_rfl) rfl
            clear hd hf
            (go_simp; try with_reducible rfl)
          refine Mono.rgl_valg (v := ?vs9) rfl Mono.rr (fun ρ W hd => Mono.guard_val hd (t := 131) (k := 5) (by kernel_rfl) rfl) (fun ρ a W hR hd hf => ?hs9) ?_
          case hs9 =>
            have e134 := Mono.dep_val hd hf (t := 134) (k := 8) (by kernel_rfl) rfl
            have hk := KP.out W hR
            clear hd hf
            (go_simp; try with_reducible rfl)
          refine Mono.rgl_callg (fun z W => Sl W W.heap.size 2 z J (lc spC X)) rfl Mono.rr hstSl (fun ρ W hd => Mono.guard_val hd (t := 131) (k := 5) (by kernel_rfl) rfl) (fun ρ a W hR hd hf => ?hs10) ?_
          case hs10 =>
            have e135 := Mono.dep_val hd hf (t := 135) (k := 9) (by kernel_rfl) rfl
            clear hd hf
            refine ⟨_, _, by go_simp; first | rfl | exact ⟨rfl, rfl⟩, ?_⟩
            exact (list_any w2.heap.size _ X W (HC2.out W hR) (by have := HJ.out; omega)).mono (by rintro e w' ⟨z, rfl, hr, hb⟩; exact ⟨_, rfl, hb, (by rw [← HJ.out]; exact hr.sl)⟩)
          refine Mono.rgl_valg (v := ?vs11) rfl Mono.rr (fun ρ W hd => Mono.guard_val hd (t := 131) (k := 5) (by kernel_rfl) rfl) (fun ρ a W hR hd hf => ?hs11) ?_
          case hs11 =>
            have e6 := Mono.init_get hf (t := 6) (by kernel_rfl)
            clear hd hf
            (go_simp; try with_reducible rfl)
          refine Mono.rgl_valg (v := ?vs12) rfl Mono.rr (fun ρ W hd => Mono.guard_val hd (t := 131) (k := 5) (by kernel_rfl) rfl) (fun ρ a W hR hd hf => ?hs12) ?_
          case hs12 =>
            have e14 := Mono.init_get hf (t := 14) (by kernel_rfl)
            clear hd hf
            (go_simp; try with_reducible rfl)
          refine Mono.rgl_valg (v := ?vs13) rfl Mono.rr (fun ρ W hd => Mono.guard_val hd (t := 131) (k := 5) (by kernel_rfl) rfl) (fun ρ a W hR hd hf => ?hs13) ?_
          case hs13 =>
            have e137 := Mono.dep_val hd hf (t := 137) (k := 11) (by kernel_rfl) rfl
            have e138 := Mono.dep_val hd hf (t := 138) (k := 12) (by kernel_rfl) rfl
            clear hd hf
            (go_simp; try with_reducible rfl)
          refine Mono.rgl_valg (v := ?vs14) rfl Mono.rr (fun ρ W hd => Mono.guard_val hd (t := 131) (k := 5) (by kernel_rfl) rfl) (fun ρ a W hR hd hf => ?hs14) ?_
          case hs14 =>
            have e139 := Mono.dep_val hd hf (t := 139) (k := 13) (by kernel_rfl) rfl
            have hk := KU.out W hR
            clear hd hf
            (go_simp; try with_reducible rfl)
          refine Mono.rgl_callg (fun z W => Sl W W.heap.size 2 z J (lc spC X)) rfl Mono.rr hstSl (fun ρ W hd => Mono.guard_val hd (t := 131) (k := 5) (by kernel_rfl) rfl) (fun ρ a W hR hd hf => ?hs15) ?_
          case hs15 =>
            have e140 := Mono.dep_val hd hf (t := 140) (k := 14) (by kernel_rfl) rfl
            clear hd hf
            refine ⟨_, _, by go_simp; first | rfl | exact ⟨rfl, rfl⟩, ?_⟩
            exact (rjoin_any (plL ls 3 o) _ W.heap.size W (HQ.out W hR) (Nat.le_refl _) (by have := HQL.out; omega) HBP.out).mono (by rintro e w' ⟨z, rfl, hr, hb⟩; exact ⟨_, rfl, hb, (by rw [← HJ.out, ← HX.out]; exact hr.sl)⟩)
          refine Mono.rgl_callg (fun x _ => x = .bool true) rfl Mono.rr (fun _ _ _ h _ => h) (fun ρ W hd => Mono.guard_val hd (t := 131) (k := 5) (by kernel_rfl) rfl) (fun ρ a W hR hd hf => ?hs16) ?_
          case hs16 =>
            obtain ⟨e136, d10⟩ := Mono.dep_get hd hf (t := 136) (k := 10) (by kernel_rfl)
            replace d10 : (fun z W => Sl W W.heap.size 2 z J (lc spC X)) (ρ 10) W := d10
            obtain ⟨e141, d15⟩ := Mono.dep_get hd hf (t := 141) (k := 15) (by kernel_rfl)
            replace d15 : (fun z W => Sl W W.heap.size 2 z J (lc spC X)) (ρ 15) W := d15
            clear hd hf
            refine ⟨_, _, by go_simp; first | rfl | exact ⟨rfl, rfl⟩, ?_⟩
            exact (same_any X _ _ W.heap.size W (by rw [HJ.out]; exact d10) (by rw [HJ.out]; exact d15) (Nat.le_refl _) (by have := HJ.out; omega)).mono (by rintro e w' ⟨rfl, hb⟩; exact ⟨_, rfl, hb, rfl⟩)
          refine Mono.rgl_valg (v := ?vs17) rfl Mono.rr (fun ρ W hd => Mono.guard_val hd (t := 131) (k := 5) (by kernel_rfl) rfl) (fun ρ a W hR hd hf => ?hs17) ?_
          case hs17 =>
            have e142 := Mono.dep_val hd hf (t := 142) (k := 16) (by kernel_rfl) rfl
            clear hd hf
            (go_simp; try with_reducible rfl)
          refine Mono.rgl_val (v := ?vs18) rfl Mono.rr (fun ρ a W hR hd hf => ?hs18) ?_
          case hs18 =>
            have e131 := Mono.dep_val hd hf (t := 131) (k := 5) (by kernel_rfl) rfl
            have e143 := Mono.dep_val hd hf (t := 143) (k := 17) (by kernel_rfl) rfl
            clear hd hf
            (go_simp; try with_reducible rfl)
          refine Mono.rgl_done rfl (fun ρ W hR ht => ?_)
          obtain ⟨ds18, ds17, ds16, ds15, ds14, ds13, ds12, ds11, ds10, ds9, ds8, ds7, ds6, ds5, ds4, ds3, ds2, ds1, ds0, _⟩ := ht
          replace ds10 : (fun z W => Sl W W.heap.size 2 z J (lc spC X)) (ρ 10) W := ds10
          replace ds15 : (fun z W => Sl W W.heap.size 2 z J (lc spC X)) (ρ 15) W := ds15
          simp only [List.length_cons, List.length_nil, Nat.reduceAdd] at ds0 ds1 ds2 ds3 ds4 ds5 ds6 ds7 ds8 ds9 ds11 ds12 ds13 ds14 ds16 ds17 ds18
          simp only [Mono.putAll, Nat.reduceAdd, ds0, ds1, ds2, ds3, ds4, ds5, ds6, ds7, ds8, ds9, ds11, ds12, ds13, ds14, ds16, ds17, ds18, Act.put, List.setIfInBounds_toArray, List.set_cons_zero, List.set_cons_succ]
          clear ds0 ds1 ds2 ds3 ds4 ds5 ds6 ds7 ds8 ds9 ds11 ds12 ds13 ds14 ds16 ds17 ds18
          generalize ρ 10 = rs10 at *
          generalize ρ 15 = rs15 at *
          have HB2 := Lib.hid (HB.out.trans (hR.mono hzb))
          clear hR
          go_wp2_with (fail)
          go_roundw
          case rel => exact ⟨o + 1, rfl, ho3, HB2⟩
          case measure => simp [intOf] <;> omega
        · have d7 : decide (o < 3) = false := decide_eq_false ho3
          have d8 : decide ((o : Int) < 3) = false := decide_eq_false (by omega)
          obtain rfl : o = 3 := by omega
          go_wp2_with (fail)
          go_ret
          exact ⟨rfl, HB10.out.trans (HB.out.mono HB10.out.size)⟩
end Go.Proofs.Ytfnaoekkdgndkaa
