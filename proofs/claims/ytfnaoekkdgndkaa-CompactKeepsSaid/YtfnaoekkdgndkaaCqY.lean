/- The law CompactKeeps, walked. -/
import Derived.Test.YtfnaoekkdgndkaaCqA
namespace Go.Proofs.Ytfnaoekkdgndkaa
set_option maxRecDepth 100000
set_option linter.unusedVariables false
set_option linter.unusedSimpArgs false
open Go.RowKit
theorem info_u8 : (Try.prog.info? 5).map (fun i => (i.zero, i.size, i.bytes)) = some (some (.int .u8 0), 1, 1) := by kernel_rfl
theorem hmkU (n : Nat) (W : World) (hn : n ≤ 2000000) : (Instr.makeSlice 47 (.int .i64 ((n : Nat) : Int)) (.int .i64 ((n : Nat) : Int))).run Try.prog W = .ok (.slice (some ⟨W.heap.size, 0, none⟩) n n) (W.alloc (.cells (dC n (fun _ => 0)).toArray 5)) := by
  obtain ⟨i0, hi, hz0, hz1, hz2⟩ := info_parts info_u8
  have := run_makeSlice (P := Try.prog) W 47 5 i0 (.int .u8 0) Try.underlying47 hi hz0 .i64 .i64 ((n : Nat) : Int) ((n : Nat) : Int) (by omega) (Int.le_refl _) (by rw [hz1]; omega) (by rw [hz2]; omega) (by omega)
  rw [this, hz1, made_pc n _ rfl]
  rw [show (((n : Nat) : Int)).toNat = n by omega]
  rfl
set_option maxHeartbeats 16000000 in
theorem keeps_any (L : List (Nat × Nat × Nat)) (n tn : Nat) (v : Value) (w : World) (h : Sl w w.heap.size 3 v n (lc gpC L)) (hL : n = L.length) (hG : ∀ x ∈ L, x.1 < 256 ∧ x.2.1 < 256 ∧ x.2.2 < 256) (htn : tn < 256) (hn : n ≤ maxLen) :
    Calls Try.prog 4 #[v, .int .u8 (tn : Nat)] w fun e w' => e = .returned (.bool true) ∧ Below w.heap.size w w' := by
  obtain ⟨a, cap, rfl, hcap⟩ := h.form
  have HAW := Lib.hid (awake_any w)
  have HMA := Lib.hid (fun (W : World) (hW : Below w.heap.size w W) => made_any L n tn (.slice a n cap) W ((h.below hW).mono hW.size) hL hG htn hn)
  obtain ⟨ls, hls⟩ : ∃ z, madeL (atG L) tn (min n 40) = z := ⟨_, rfl⟩
  have HWF : Hid (WF ls 3) := Lib.hid (by rw [← hls]; exact made_wf _ _ _)
  have HSUM : Hid (sumL ls 3 ≤ 1000) := Lib.hid (by rw [← hls]; exact Nat.le_trans (made_sum _ _ _) (by omega))
  have HBD : Hid (∀ o, o < 3 → BdS (ls o)) := Lib.hid (fun o _ => by rw [← hls]; exact (made_bd _ _ _ (by omega) o).join)
  have HLN : Hid (∀ o, o < 3 → (ls o).length ≤ 1000) := Lib.hid (fun o ho => by have := HSUM.out; rw [sumL3] at this; rcases (show o = 0 ∨ o = 1 ∨ o = 2 by omega) with rfl | rfl | rfl <;> omega)
  have HLT : Hid (∀ x ∈ allB ls 3, x < 560) := Lib.hid (fun x hx => by rw [← hls] at hx; have := made_allB_lt _ _ _ x hx; omega)
  rw [hls] at HMA
  clear hls h hL hG htn hn
  go_enter Try.func4, Try.ntmps4
  go_wp2_with (fail)
  refine HAW.out.mono ?_
  rintro e w1 ⟨rfl, hb1⟩
  have HM1 := Lib.hid (HMA.out w1 hb1)
  have HB1 := Lib.hid hb1
  clear hb1 HAW HMA hcap
  go_wp2_with (fail)
  refine HM1.out.mono ?_
  rintro e w2 ⟨v1, v2, us, rfl, hch, hrow, hll, hb2⟩
  have HCH := Lib.hid hch
  obtain ⟨pps, hps, _⟩ := hch
  obtain ⟨a1, c1, rfl, _⟩ := hps.form
  rcases row_form hrow with ⟨_, h0, _⟩ | ⟨rb, rc, rfl, _, hrb, _⟩
  · omega
  have HR2 := Lib.hid hrow
  have HL2 := Lib.hid hll
  have HB2 := Lib.hid (HB1.out.trans (hb2.mono HB1.out.size))
  have hmk : (Instr.makeSlice 47 (.int .i64 2000) (.int .i64 2000)).run Try.prog w2 = .ok (.slice (some ⟨w2.heap.size, 0, none⟩) 2000 2000) (w2.alloc (.cells (dC 2000 (fun _ => 0)).toArray 5)) := hmkU 2000 w2 (by omega)
  obtain ⟨wa, hwa⟩ : ∃ z : World, z = w2.alloc (.cells (dC 2000 (fun _ => 0)).toArray 5) := ⟨_, rfl⟩
  have HDA : Hid (DB wa w2.heap.size 2000 (fun _ => 0)) := Lib.hid (by rw [hwa]; exact DB.new w2 2000 _)
  have HBA : Hid (Below w2.heap.size w2 wa) := Lib.hid (by rw [hwa]; exact (Below.refl _ _).alloc (Nat.le_refl _) _)
  clear hps hrow hll hb2 HM1 hrb
  go_upto_region 5 with (fail)
  rw [← hwa]
  clear hwa hmk
  obtain ⟨db, hdb0⟩ : ∃ z, w2.heap.size = z := ⟨_, rfl⟩
  have HDB0 := Lib.hid hdb0
  rw [hdb0] at HDA ⊢
  clear hdb0
  go_wp2_with (fail)
  go_loopw [8] (fun i wr => ∃ (q : Nat) (D : Nat → Int), i = .int .i64 q ∧ q ≤ 2000 ∧ Hid (DB wr db 2000 D) ∧ Hid (Below w2.heap.size w2 wr)) (fun i _ => 2000 - (intOf i).toNat)
  case atStart => exact ⟨0, _, rfl, Nat.zero_le _, HDA, HBA⟩
  case round =>
    clear HDA HBA
    obtain ⟨q, D, rfl, hq, HD, HB⟩ := hrel
    obtain ⟨w3, rfl⟩ : ∃ z : World, z = wr := ⟨_, rfl⟩
    by_cases hq2 : q < 2000
    · as_aux_lemma =>
      have d1 : decide (q < 2000) = true := decide_eq_true hq2
      have d2 : decide ((q : Int) < 2000) = true := decide_eq_true (by omega)
      have q1 : IntKind.i64.wrap ((q : Int) + 1) = (q : Int) + 1 := IntWalk.i64_in _ (by omega)
      have q2 : IntKind.i64.wrap ((q : Int) * 7) = (q : Int) * 7 := IntWalk.i64_in _ (by omega)
      have hqi : (q : Int) < 2000 := by omega
      have k0 := HD.out.cell hq2
      have f0 := HD.out.frozen q
      go_wp2_with (fail)
      go_roundw
      case rel => exact ⟨q + 1, _, rfl, hq2, Lib.hid (HD.out.store hq2 _), Lib.hid (HB.out.setCell (p := ⟨db, q, none⟩) (by rw [HDB0.out]; exact Nat.le_refl _) _)⟩
      case measure => simp [intOf] <;> omega
    have d1 : decide (q < 2000) = false := decide_eq_false hq2
    have d2 : decide ((q : Int) < 2000) = false := decide_eq_false (by omega)
    clear hq2
    have HDE := Lib.hid (HD.out.below (B := w3.heap.size) ((Below.refl _ _).alloc (Nat.le_refl _) (.cells #[] 5)) HD.out.lt)
    have HRE := Lib.hid (Row.empty (e := 5) (size := 1) w3 (Nat.le_refl w3.heap.size))
    have HBE : Hid (Below w2.heap.size w2 (w3.alloc (.cells #[] 5))) := Lib.hid (HB.out.alloc HB.out.size _)
    have hze : w3.heap.size ≤ (w3.alloc (.cells #[] 5)).heap.size := by simp
    have hdb3 : db < w3.heap.size := HD.out.lt
    go_wp2_with (at_builtin; refine append_row (m := 2000) (news := dC 2000 D) Try.underlying47 info_u8 rfl (by decide) rfl _ _ rfl rfl HRE.out rfl (HDE.out.sl (o := 0) (Nat.le_refl _) (Nat.le_refl _)) (dC_one _ _) ?_ ?_ ?_ ?_; omega; omega; exact hze)
    intro v5 w5 hr5 hb5
    obtain ⟨bb, bc, rfl, _, hbb, _⟩ : ∃ g c, v5 = .slice (some ⟨g, 0, none⟩) 2000 c ∧ 2000 ≤ c ∧ w3.heap.size ≤ g ∧ g < w5.heap.size := by
      rcases row_form hr5 with ⟨_, h0, _⟩ | h0
      · omega
      · exact h0
    have HBF := Lib.hid hr5
    have HD5 := Lib.hid (HDE.out.below hb5 hdb3)
    have HB5 := Lib.hid (HBE.out.trans (hb5.mono HB.out.size))
    have hz35 : w3.heap.size ≤ w5.heap.size := by have := hb5.size; omega
    clear hr5 hb5 HRE HDE HBE HD HB
    have HPL := Lib.hid (plan_own 3 ls (.slice a1 3 c1) w5 (HCH.out.below HB5.out) HWF.out (by omega) HSUM.out HBD.out)
    obtain ⟨N, hN⟩ : ∃ z, sumL ls 3 = z := ⟨_, rfl⟩
    have HN0 := Lib.hid hN
    have hN1000 : N ≤ 1000 := by have := HSUM.out; omega
    clear hN
    go_wp2_with (fail)
    refine HPL.out.mono ?_
    rintro e w6 ⟨v3, v4, ps, rfl, hmv, hnow, hcs, hb6⟩
    rw [HN0.out] at hmv hcs
    obtain ⟨MV, hMV⟩ : ∃ z, (PL ls 3 N).mv = z := ⟨_, rfl⟩
    have HMV0 := Lib.hid hMV
    rw [hMV] at hmv
    obtain ⟨M, hM⟩ : ∃ z, MV.length = z := ⟨_, rfl⟩
    have HM0 := Lib.hid hM
    have hM1000 : M ≤ 1000 := by rw [← hM, ← hMV]; exact Nat.le_trans (PL_len _ _ _) hN1000
    rw [hM] at hmv
    obtain ⟨a3, c3, rfl, _⟩ := hmv.form
    rcases row_form hnow with ⟨_, h0, _⟩ | ⟨nb, nc, rfl, _, hnb, _⟩
    · omega
    have HMB : Hid (∀ m ∈ MV, 1 ≤ m.l ∧ m.f + m.l ≤ 560 ∧ m.t ≤ m.f) := Lib.hid (fun m hm => by
      rw [← HMV0.out, ← HN0.out] at hm
      exact move_bd HWF.out HLT.out m hm)
    have HRI := Lib.hid (right_any (MV.map toMI) M (.slice a3 M c3) w6.heap.size w6 (by rw [mvI_eq]; exact hmv.sl) (Nat.le_refl _) (by rw [List.length_map]; exact hM.symm) hM1000 (fun i hi => by
      have hi' : i < MV.length := by rw [hM]; exact hi
      rw [atM_map hi']
      obtain ⟨h1, h2, h3⟩ := HMB.out _ (List.getElem_mem hi')
      refine ⟨?_, ?_, ?_⟩ <;> simp only [toMI] <;> omega))
    have HRP : Hid (RightP (MV.map toMI) M) := Lib.hid (by
      have := (PL_right HWF.out (k := N) (by rw [HN0.out]; exact Nat.le_refl _)).1
      rw [hMV, hM] at this
      exact this)
    have HM6 := Lib.hid hmv
    have HN6 := Lib.hid hnow
    have HC6 := Lib.hid hcs
    have HBF6 := Lib.hid (HBF.out.below hb6)
    have HD6 := Lib.hid (HD5.out.below hb6 (Nat.lt_of_lt_of_le hdb3 hz35))
    have hz2 := HB5.out.size
    have HB6 := Lib.hid (HB5.out.trans (hb6.mono hz2))
    have HDLT : Hid (db < w5.heap.size) := Lib.hid (Nat.lt_of_lt_of_le hdb3 hz35)
    clear hMV hM hmv hnow hcs hb6 HPL HBF HD5 HB5 hze
    go_wp2_with (fail)
    refine HRI.out.mono ?_
    rintro e w7 ⟨bo, rfl, hbo, hb7⟩
    obtain rfl : bo = true := hbo.2 HRP.out
    have HM7 := Lib.hid (HM6.out.below hb7)
    have HN7 := Lib.hid (HN6.out.below hb7)
    have HC7 : Hid (∀ o, o < 3 → Chn w5.heap.size w7 (ps o) (nowL ls 3 o)) := Lib.hid (fun o ho => by
      have := (HC6.out o ho).below hb7
      unfold nowL plL
      rw [HN0.out]
      exact this)
    have HBF7 := Lib.hid (HBF6.out.below hb7)
    have HD7 := Lib.hid (HD6.out.below hb7 HD6.out.lt)
    have HB7 := Lib.hid (HB6.out.trans (hb7.mono HB6.out.size))
    have hz57 : w5.heap.size ≤ w7.heap.size := by have := hb7.size; have := HC6; omega
    clear hbo hb7 HRI HRP HM6 HN6 HC6 HBF6 HD6 HB6
    go_wp2_with (fail)
    go_loopw [12] (fun i wr => ∃ k : Nat, i = .int .i64 k ∧ k ≤ M ∧ Hid (DB wr db 2000 (fun x => D (runMv id (MV.take k) x))) ∧ Hid (Row w5.heap.size 38 3 wr (.slice a3 M c3) M (lc mvC MV)) ∧ Hid (Row w5.heap.size 41 1 wr (.slice (some ⟨nb, 0, none⟩) 3 nc) 3 (pcells 3 ps)) ∧ Hid (∀ o, o < 3 → Chn w5.heap.size wr (ps o) (nowL ls 3 o)) ∧ Hid (Row w3.heap.size 5 1 wr (.slice (some ⟨bb, 0, none⟩) 2000 bc) 2000 (dC 2000 D)) ∧ Hid (Below w2.heap.size w2 wr) ∧ w5.heap.size ≤ wr.heap.size) (fun i _ => M - (intOf i).toNat)
    case atStart => exact ⟨0, rfl, Nat.zero_le _, HD7, HM7, HN7, HC7, HBF7, HB7, hz57⟩
    case round =>
      clear HD7 HM7 HN7 HC7 HBF7 HB7 hz57
      obtain ⟨k, rfl, hk, HD, HM, HN, HC, HBF, HB, hz5⟩ := hrel
      obtain ⟨wo, rfl⟩ : ∃ z : World, z = wr := ⟨_, rfl⟩
      by_cases hkM : k < M
      · as_aux_lemma =>
        have d1 : decide (k < M) = true := decide_eq_true hkM
        have d2 : decide ((k : Int) < (M : Int)) = true := decide_eq_true (by omega)
        have q1 : IntKind.i64.wrap ((k : Int) + 1) = (k : Int) + 1 := IntWalk.i64_in _ (by omega)
        have hki : (k : Int) < (M : Int) := by omega
        rcases row_form HM.out with ⟨_, h0, _⟩ | ⟨mb, mc, he, _, hmb, _⟩
        · omega
        injection he with he1 _ he2
        subst he1 he2
        obtain ⟨x, hx⟩ : ∃ x, MV[k]? = some x := ⟨_, List.getElem?_eq_getElem (by rw [HM0.out]; exact hkM)⟩
        obtain ⟨hl1, hfl, htf⟩ := HMB.out x (List.mem_of_getElem? hx)
        obtain ⟨m0, m1, m2⟩ := mv_row HM.out HM0.out.symm hx
        have HNX : Hid (runMv id (MV.take (k + 1)) = doMv (runMv id (MV.take k)) x) := Lib.hid (by rw [List.take_add_one, hx]; exact runMv_snoc _ _ _)
        obtain ⟨A, T, Lq⟩ := x
        simp only at hl1 hfl htf m0 m1 m2
        clear hx
        obtain ⟨wx, hwx⟩ : ∃ z : World, z = wo.alloc (.cells #[.int .i64 (A : Nat), .int .i64 (T : Nat), .int .i64 (Lq : Nat)] 38) := ⟨_, rfl⟩
        have hbx : Below wo.heap.size wo wx := by rw [hwx]; exact (Below.refl _ _).alloc (Nat.le_refl _) _
        have hox : Own wx wo.heap.size [.int .i64 (A : Nat), .int .i64 (T : Nat), .int .i64 (Lq : Nat)] := by rw [hwx]; exact Own.new_at wo _ _ _ rfl
        have hlt : wo.heap.size < wx.heap.size := by rw [hwx]; simp
        have hdlt : db < wx.heap.size := Nat.lt_trans HD.out.lt hlt
        have HDB := Lib.hid (HD.out.below hbx HD.out.lt)
        have HM := Lib.hid (HM.out.below hbx)
        have HN := Lib.hid (HN.out.below hbx)
        have HC : Hid (∀ o, o < 3 → Chn w5.heap.size wx (ps o) (nowL ls 3 o)) := Lib.hid (fun o ho => (HC.out o ho).below hbx)
        have HBF := Lib.hid (HBF.out.below hbx)
        have HB := Lib.hid (HB.out.trans (hbx.mono HB.out.size))
        have hz5x : w5.heap.size ≤ wx.heap.size := by omega
        have HOX := Lib.hid hox
        have z0 := hox.1 0 _ rfl
        have z1 := hox.1 1 _ rfl
        have z2 := hox.1 2 _ rfl
        have e1 : decide ((Lq : Int) < 0) = false := decide_eq_false (by omega)
        have e2 : decide ((A : Int) < 0) = false := decide_eq_false (by omega)
        have e3 : decide ((T : Int) < 0) = false := decide_eq_false (by omega)
        have w1 : IntKind.i64.wrap (2000 - (Lq : Int)) = 2000 - (Lq : Int) := IntWalk.i64_in _ (by omega)
        have e4 : decide (2000 - (Lq : Int) < (A : Int)) = false := decide_eq_false (by omega)
        have e5 : decide (2000 - (Lq : Int) < (T : Int)) = false := decide_eq_false (by omega)
        have w2' : IntKind.i64.wrap ((A : Int) + (Lq : Int)) = ((A + Lq : Nat) : Int) := by rw [IntWalk.i64_in _ (by omega)]; omega
        obtain ⟨i0, hi, hz0, hz1, hz2'⟩ := info_parts info_u8
        have HI := Lib.hid hi
        have HZ0 := Lib.hid hz0
        have HZ1 := Lib.hid hz1
        have HZ2 := Lib.hid hz2'
        clear hbx hox hi hz0 hz1 hz2'
        go_upto_region 17 with (fail)
        rw [← hwx]
        clear hwx m0 m1 m2
        go_upto_region 19 with (fail)
        clear z0 z1 z2 e1 e2 e3 e4 e5
        refine Mono.region_tail 15 (by kernel_rfl) (by kernel_rfl) (by kernel_rfl) (by kernel_rfl) ?_
        simp only [List.take_succ_cons, List.take_zero]
        refine Mono.hgl_val (v := ?vm0) rfl Mono.rr (fun ρ a W hR hd hf => ?hm0) ?_
        case hm0 =>
          have e7 := Mono.init_get hf (t := 7) (by kernel_rfl)
          clear hd hf
          (go_simp; try with_reducible rfl)
        refine Mono.hgl_val (v := ?vm1) rfl Mono.rr (fun ρ a W hR hd hf => ?hm1) ?_
        case hm1 =>
          have e13 := Mono.init_get hf (t := 13) (by kernel_rfl)
          clear hd hf
          (go_simp; try with_reducible rfl)
        refine Mono.hgl_val (v := ?vm2) rfl Mono.rr (fun ρ a W hR hd hf => ?hm2) ?_
        case hm2 =>
          have e106 := Mono.dep_val hd hf (t := 106) (k := 1) (by kernel_rfl) rfl
          have hk := (HOX.out.below hR hlt).1 1 _ rfl
          clear hd hf
          (go_simp; try with_reducible rfl)
        refine Mono.hgl_val (v := .slice (some ⟨db, T, none⟩) (2000 - T) (2000 - T)) rfl Mono.rr (fun ρ a W hR hd hf => ?hm3) ?_
        case hm3 =>
          have e105 := Mono.dep_val hd hf (t := 105) (k := 0) (by kernel_rfl) rfl
          have e107 := Mono.dep_val hd hf (t := 107) (k := 2) (by kernel_rfl) rfl
          clear hd hf
          (go_simp; rw [if_pos (by omega), if_neg (by omega)])
        refine Mono.hgl_pred (fun z W => ∃ g, z = .slice (some ⟨g, 0, none⟩) 0 0) rfl (fun _ _ _ h _ => h) (fun ρ a W hR hd hf => ?hm4) ?_
        case hm4 =>
          clear hd hf
          exact ⟨.slice (some ⟨W.heap.size, 0, none⟩) 0 0, W.alloc (.cells #[] 5), by go_simp, (Below.refl _ _).alloc (Nat.le_refl _) _, _, rfl⟩
        refine Mono.hgl_val (v := ?vm5) rfl Mono.rr (fun ρ a W hR hd hf => ?hm5) ?_
        case hm5 =>
          have e7 := Mono.init_get hf (t := 7) (by kernel_rfl)
          clear hd hf
          (go_simp; try with_reducible rfl)
        refine Mono.hgl_val (v := ?vm6) rfl Mono.rr (fun ρ a W hR hd hf => ?hm6) ?_
        case hm6 =>
          have e13 := Mono.init_get hf (t := 13) (by kernel_rfl)
          clear hd hf
          (go_simp; try with_reducible rfl)
        refine Mono.hgl_val (v := ?vm7) rfl Mono.rr (fun ρ a W hR hd hf => ?hm7) ?_
        case hm7 =>
          have e111 := Mono.dep_val hd hf (t := 111) (k := 6) (by kernel_rfl) rfl
          have hk := (HOX.out.below hR hlt).1 0 _ rfl
          clear hd hf
          (go_simp; try with_reducible rfl)
        refine Mono.hgl_val (v := ?vm8) rfl Mono.rr (fun ρ a W hR hd hf => ?hm8) ?_
        case hm8 =>
          have e13 := Mono.init_get hf (t := 13) (by kernel_rfl)
          clear hd hf
          (go_simp; try with_reducible rfl)
        refine Mono.hgl_val (v := ?vm9) rfl Mono.rr (fun ρ a W hR hd hf => ?hm9) ?_
        case hm9 =>
          have e113 := Mono.dep_val hd hf (t := 113) (k := 8) (by kernel_rfl) rfl
          have hk := (HOX.out.below hR hlt).1 0 _ rfl
          clear hd hf
          (go_simp; try with_reducible rfl)
        refine Mono.hgl_val (v := ?vm10) rfl Mono.rr (fun ρ a W hR hd hf => ?hm10) ?_
        case hm10 =>
          have e13 := Mono.init_get hf (t := 13) (by kernel_rfl)
          clear hd hf
          (go_simp; try with_reducible rfl)
        refine Mono.hgl_val (v := ?vm11) rfl Mono.rr (fun ρ a W hR hd hf => ?hm11) ?_
        case hm11 =>
          have e115 := Mono.dep_val hd hf (t := 115) (k := 10) (by kernel_rfl) rfl
          have hk := (HOX.out.below hR hlt).1 2 _ rfl
          clear hd hf
          (go_simp; try with_reducible rfl)
        refine Mono.hgl_val (v := ?vm12) rfl Mono.rr (fun ρ a W hR hd hf => ?hm12) ?_
        case hm12 =>
          have e114 := Mono.dep_val hd hf (t := 114) (k := 9) (by kernel_rfl) rfl
          have e116 := Mono.dep_val hd hf (t := 116) (k := 11) (by kernel_rfl) rfl
          clear hd hf
          (go_simp; try with_reducible rfl)
        refine Mono.hgl_val (v := .slice (some ⟨db, A, none⟩) Lq (2000 - A)) rfl Mono.rr (fun ρ a W hR hd hf => ?hm13) ?_
        case hm13 =>
          have e110 := Mono.dep_val hd hf (t := 110) (k := 5) (by kernel_rfl) rfl
          have e112 := Mono.dep_val hd hf (t := 112) (k := 7) (by kernel_rfl) rfl
          have e117 := Mono.dep_val hd hf (t := 117) (k := 12) (by kernel_rfl) rfl
          clear hd hf
          (go_simp; rw [if_pos (by omega), if_pos (by omega), if_neg (by omega), show ((A : Int) + (Lq : Int)).toNat - A = Lq by omega])
        refine Mono.hgl_pred (fun z W => Row w5.heap.size 5 1 W z (0 + Lq) ([] ++ dC Lq fun x => D (runMv id (MV.take k) (A + x)))) rfl hstRow (fun ρ a W hR hd hf => ?hm14) ?_
        case hm14 =>
          obtain ⟨e109, d4⟩ := Mono.dep_get hd hf (t := 109) (k := 4) (by kernel_rfl)
          replace d4 : (fun z W => ∃ g, z = .slice (some ⟨g, 0, none⟩) 0 0) (ρ 4) W := d4
          have e118 := Mono.dep_val hd hf (t := 118) (k := 13) (by kernel_rfl) rfl
          obtain ⟨ge, d4⟩ := d4
          rw [d4] at e109
          obtain ⟨L1, rfl⟩ : ∃ L1, Lq = L1 + 1 := ⟨Lq - 1, by omega⟩
          clear hd hf
          exact mono_append_grows (w0 := w5) (W := W) Try.underlying47 HI.out HZ0.out HZ1.out HZ2.out rfl (by decide) (.tmp 109) (.tmp 118) rfl (by rw [eval_tmp e109]) (fun h => by cases h) (olds := []) rfl (fun _ _ j u hj => by cases hj) (by rw [eval_tmp e118]) ((HDB.out.below hR hdlt).sl (o := A) (m := L1 + 1) (c := 2000 - A) (by omega) (by omega)) (dC_one _ _) (by omega) (by unfold maxLen; omega) (by omega) (by have := hR.size; omega)
        refine Mono.hgl_done rfl (by decide) (fun ρ W hR ht => ?_)
        simp only [List.take_succ_cons, List.take_zero, List.drop_succ_cons, List.drop_zero]
        obtain ⟨dm14, dm13, dm12, dm11, dm10, dm9, dm8, dm7, dm6, dm5, dm4, dm3, dm2, dm1, dm0, _⟩ := ht
        replace dm4 : (fun z W => ∃ g, z = .slice (some ⟨g, 0, none⟩) 0 0) (ρ 4) W := dm4
        replace dm14 : (fun z W => Row w5.heap.size 5 1 W z (0 + Lq) ([] ++ dC Lq fun x => D (runMv id (MV.take k) (A + x)))) (ρ 14) W := dm14
        simp only [List.length_cons, List.length_nil, Nat.reduceAdd] at dm0 dm1 dm2 dm3 dm5 dm6 dm7 dm8 dm9 dm10 dm11 dm12 dm13
        simp only [Mono.putAll, Nat.reduceAdd, dm0, dm1, dm2, dm3, dm5, dm6, dm7, dm8, dm9, dm10, dm11, dm12, dm13, Act.put, List.setIfInBounds_toArray, List.set_cons_zero, List.set_cons_succ]
        clear dm0 dm1 dm2 dm3 dm5 dm6 dm7 dm8 dm9 dm10 dm11 dm12 dm13
        generalize ρ 4 = rm4 at *
        generalize ρ 14 = rm14 at *
        simp only [Nat.zero_add, List.nil_append] at dm14
        obtain ⟨g9, c9, rfl, _, _, _⟩ : ∃ g c, rm14 = .slice (some ⟨g, 0, none⟩) Lq c ∧ Lq ≤ c ∧ w5.heap.size ≤ g ∧ g < W.heap.size := by
          rcases row_form dm14 with ⟨_, h0, _⟩ | h0
          · omega
          · exact h0
        have HDW := Lib.hid (HDB.out.below hR hdlt)
        have HSR : Hid (∀ (j : Nat) (v : Value), (dC Lq fun x => D (runMv id (MV.take k) (A + x)))[j]? = some v → W.cell? (Addr.add ⟨g9, 0, none⟩ j) = some v) := Lib.hid (fun j v hj => by
          rw [add_plain]
          exact sl_same dm14.sl (by omega) j v hj)
        obtain ⟨wz, hwz⟩ : ∃ z : World, z = W.setRow db ((dC 2000 fun x => D (runMv id (MV.take k) x)).toArray.toList.take T ++ ((dC Lq fun x => D (runMv id (MV.take k) (A + x))) ++ (dC 2000 fun x => D (runMv id (MV.take k) x)).toArray.toList.drop (T + (dC Lq fun x => D (runMv id (MV.take k) (A + x))).length))).toArray := ⟨_, rfl⟩
        have HD2 : Hid (DB wz db 2000 (fun x => D (runMv id (MV.take (k + 1)) x))) := Lib.hid (by
          rw [HNX.out, ← do_comp, hwz]
          exact HDW.out.splice (T := T) (L := Lq) (fun x => D (runMv id (MV.take k) (A + x))) (by omega))
        have HM2 : Hid (Row w5.heap.size 38 3 wz _ M (lc mvC MV)) := Lib.hid (by rw [hwz]; exact (HM.out.below hR).setRow HDLT.out _)
        have HN2 : Hid (Row w5.heap.size 41 1 wz (.slice (some ⟨nb, 0, none⟩) 3 nc) 3 (pcells 3 ps)) := Lib.hid (by rw [hwz]; exact (HN.out.below hR).setRow HDLT.out _)
        have HC2 : Hid (∀ o, o < 3 → Chn w5.heap.size wz (ps o) (nowL ls 3 o)) := Lib.hid (fun o ho => by rw [hwz]; exact ((HC.out o ho).below hR).setRow HDLT.out _)
        have HBF2 : Hid (Row w3.heap.size 5 1 wz (.slice (some ⟨bb, 0, none⟩) 2000 bc) 2000 (dC 2000 D)) := Lib.hid (by rw [hwz]; exact (HBF.out.below hR).setRow hdb3 _)
        have HB2' : Hid (Below w2.heap.size w2 wz) := Lib.hid (by rw [hwz]; exact below_setRow (HB.out.trans (hR.mono HB.out.size)) (by rw [HDB0.out]; exact Nat.le_refl _) _)
        have hz5z : w5.heap.size ≤ wz.heap.size := by have := hR.size; rw [hwz]; simp only [World.setRow, Array.size_modify]; omega
        have hrun : (Builtin.copy_ #[47, 47] 3 #[.slice (some ⟨db, T, none⟩) (2000 - T) (2000 - T), .slice (some ⟨g9, 0, none⟩) Lq c9]).run Try.prog W = .ok (goInt (dC Lq fun x => D (runMv id (MV.take k) (A + x))).length) wz := by
          rw [hwz, ← List.append_assoc]
          exact run_copy_row (P := Try.prog) W 47 47 3 5 db T (2000 - T) (2000 - T) ⟨g9, 0, none⟩ Lq c9 (dC 2000 fun x => D (runMv id (MV.take k) x)).toArray 5 (dC Lq fun x => D (runMv id (MV.take k) (A + x))) Try.underlying47 (by kernel_rfl) HDW.out (by rw [dC_len]; exact (Nat.min_eq_left (by omega)).symm) HSR.out (by rw [dC_len]; simp only [List.size_toArray, dC_len]; omega) (dC_one _ _)
        rw [dC_len] at hrun
        clear hwz dm14 hR
        go_wp2_with (fail)
        go_roundw
        case rel => exact ⟨k + 1, rfl, hkM, HD2, HM2, HN2, HC2, HBF2, HB2', hz5z⟩
        case measure => simp [intOf] <;> omega
      have d1 : decide (k < M) = false := decide_eq_false hkM
      have d2 : decide ((k : Int) < (M : Int)) = false := decide_eq_false (by omega)
      obtain rfl : k = M := by omega
      have HDE : Hid (∀ x ∈ allB ls 3, ∀ W, Below wo.heap.size wo W → W.cell? ⟨db, rkA ls 3 x, none⟩ = some (.int .u8 (D x)) ∧ W.cell? ⟨bb, x, none⟩ = some (.int .u8 (D x)) ∧ x < 560 ∧ rkA ls 3 x < 560) := Lib.hid (fun x hx W hW => by
        have h1 := HLT.out x hx
        have h2 := rkA_le HWF.out hx
        have h3 := (HD.out.below hW HD.out.lt).cell (x := rkA ls 3 x) (by omega)
        have h4 := run_byte HWF.out id hx
        rw [HN0.out, HMV0.out] at h4
        rw [List.take_of_length_le (by rw [HM0.out]; exact Nat.le_refl _), h4] at h3
        have h5 := sl_same ((HBF.out.below hW).sl) (by omega) x _ (dC_get D (by omega))
        rw [Nat.zero_add] at h5
        exact ⟨h3, h5, h1, by omega⟩)
      have hzo := HB.out.size
      have hdbo : db < wo.heap.size := HD.out.lt
      clear HD HM HBF hkM
      go_wp2_with (fail)
      go_loopw [14] (fun i wr => ∃ o : Nat, i = .int .i64 o ∧ o ≤ 3 ∧ Hid (Below wo.heap.size wo wr)) (fun i _ => 3 - (intOf i).toNat)
      case atStart => exact ⟨0, rfl, Nat.zero_le _, Lib.hid (Below.refl _ _)⟩
      case round =>
        obtain ⟨o, rfl, ho, HBI⟩ := hrel
        obtain ⟨w8, rfl⟩ : ∃ z : World, z = wr := ⟨_, rfl⟩
        have hzi := HBI.out.size
        by_cases ho3 : o < 3
        · as_aux_lemma =>
          have d3 : decide (o < 3) = true := decide_eq_true ho3
          have d4 : decide ((o : Int) < 3) = true := decide_eq_true (by omega)
          have q1 : IntKind.i64.wrap ((o : Int) + 1) = (o : Int) + 1 := IntWalk.i64_in _ (by omega)
          have hoi : (o : Int) < 3 := by omega
          obtain ⟨X, hX⟩ : ∃ z, nowL ls 3 o = z := ⟨_, rfl⟩
          obtain ⟨J, hJ⟩ : ∃ z, X.length = z := ⟨_, rfl⟩
          obtain ⟨NA, hNA⟩ : ∃ z, (bytes (ls o)).length = z := ⟨_, rfl⟩
          have HXY : Hid (bytes X = (bytes (ls o)).map (rkA ls 3)) := Lib.hid (by rw [← hX]; exact now_bytes HWF.out ho3)
          have HXB : Hid (BdS X) := Lib.hid (by rw [← hX]; exact now_bd HWF.out HBD.out o ho3)
          have HBO := Lib.hid (HBD.out o ho3)
          have HQL := Lib.hid (HLN.out o ho3)
          have HJ := Lib.hid hJ
          have hJ1000 : J ≤ 1000 := by
            rw [← hJ, ← hX]
            refine Nat.le_trans (join_len _) ?_
            rw [plL_len]
            exact HQL.out
          have HNA := Lib.hid hNA
          have hNA1 : NA ≤ 560 := by rw [← hNA]; exact Nat.le_trans (bytes_le_allB ho3) (allB_len HWF.out HLT.out)
          obtain ⟨pb, pv, hpe, hpb, hpc⟩ := HC.out o ho3
          have HC2 : Hid (∀ W, Below w8.heap.size w8 W → Chn w5.heap.size W (.pointer (some ⟨pb, 0, none⟩)) X) := Lib.hid (fun W hW => by rw [← hX, ← hpe]; exact (HC.out o ho3).below (HBI.out.trans (hW.mono hzi)))
          have KP : Hid (∀ W, Below w8.heap.size w8 W → W.cell? ⟨nb, o, none⟩ = some (.pointer (some ⟨pb, 0, none⟩))) := Lib.hid (fun W hW => by rw [← hpe]; exact row_at (HN.out.below (HBI.out.trans (hW.mono hzi))) ho3)
          obtain ⟨ua, uc, hu, _⟩ := (HL2.out.row o ho3).form
          have HBW : Hid (∀ W, Below w8.heap.size w8 W → Below w2.heap.size w2 W) := Lib.hid (fun W hW => (HB.out.trans (HBI.out.mono hzo)).trans (hW.mono (Nat.le_trans hzo hzi)))
          have KU : Hid (∀ W, Below w8.heap.size w8 W → W.cell? ⟨rb, o, none⟩ = some (.slice ua (ls o).length uc)) := Lib.hid (fun W hW => by rw [← hu]; exact row_at (HR2.out.below (HBW.out W hW)) ho3)
          have HQ : Hid (∀ W, Below w8.heap.size w8 W → Sl W W.heap.size 2 (.slice ua (ls o).length uc) (ls o).length (lc spC (ls o))) := Lib.hid (fun W hW => by
            have h1 := (HL2.out.below (HBW.out W hW)).sl ho3
            rw [hu] at h1
            exact h1)
          have HIN : Hid (∀ x ∈ bytes (ls o), x ∈ allB ls 3) := Lib.hid (fun x hx => mem_allB ho3 hx)
          clear hX hJ hNA hpe hpb hpc hu
          go_upto_region 23 with (fail)
          refine Mono.region_below (by kernel_rfl) (by kernel_rfl) (by kernel_rfl) ?_
          refine Mono.rgl_val (v := ?vp0) rfl Mono.rr (fun ρ a W hR hd hf => ?hp0) ?_
          case hp0 =>
            have e6 := Mono.init_get hf (t := 6) (by kernel_rfl)
            clear hd hf
            (go_simp; try with_reducible rfl)
          refine Mono.rgl_val (v := ?vp1) rfl Mono.rr (fun ρ a W hR hd hf => ?hp1) ?_
          case hp1 =>
            have e14 := Mono.init_get hf (t := 14) (by kernel_rfl)
            clear hd hf
            (go_simp; try with_reducible rfl)
          refine Mono.rgl_val (v := ?vp2) rfl Mono.rr (fun ρ a W hR hd hf => ?hp2) ?_
          case hp2 =>
            have e125 := Mono.dep_val hd hf (t := 125) (k := 0) (by kernel_rfl) rfl
            have e126 := Mono.dep_val hd hf (t := 126) (k := 1) (by kernel_rfl) rfl
            clear hd hf
            (go_simp; try with_reducible rfl)
          refine Mono.rgl_val (v := ?vp3) rfl Mono.rr (fun ρ a W hR hd hf => ?hp3) ?_
          case hp3 =>
            have e127 := Mono.dep_val hd hf (t := 127) (k := 2) (by kernel_rfl) rfl
            have hk := KU.out W hR
            clear hd hf
            (go_simp; try with_reducible rfl)
          refine Mono.rgl_call (fun z W => Sl W W.heap.size 1 z NA (lc inC (bytes (ls o)))) rfl Mono.rr hstSl (fun ρ a W hR hd hf => ?hp4) ?_
          case hp4 =>
            have e128 := Mono.dep_val hd hf (t := 128) (k := 3) (by kernel_rfl) rfl
            clear hd hf
            refine ⟨_, _, by go_simp; first | rfl | exact ⟨rfl, rfl⟩, ?_⟩
            exact (rplaces_any (ls o) _ W.heap.size W (HQ.out W hR) (Nat.le_refl _) (by have := HQL.out; omega) HBO.out (by have := HNA.out; omega)).mono (by rintro e w' ⟨z, rfl, hr, hb⟩; exact ⟨_, rfl, hb, (by rw [← HNA.out]; exact hr.sl)⟩)
          refine Mono.rgl_val (v := ?vp5) rfl Mono.rr (fun ρ a W hR hd hf => ?hp5) ?_
          case hp5 =>
            have e11 := Mono.init_get hf (t := 11) (by kernel_rfl)
            clear hd hf
            (go_simp; try with_reducible rfl)
          refine Mono.rgl_val (v := ?vp6) rfl Mono.rr (fun ρ a W hR hd hf => ?hp6) ?_
          case hp6 =>
            have e14 := Mono.init_get hf (t := 14) (by kernel_rfl)
            clear hd hf
            (go_simp; try with_reducible rfl)
          refine Mono.rgl_val (v := ?vp7) rfl Mono.rr (fun ρ a W hR hd hf => ?hp7) ?_
          case hp7 =>
            have e130 := Mono.dep_val hd hf (t := 130) (k := 5) (by kernel_rfl) rfl
            have e131 := Mono.dep_val hd hf (t := 131) (k := 6) (by kernel_rfl) rfl
            clear hd hf
            (go_simp; try with_reducible rfl)
          refine Mono.rgl_val (v := ?vp8) rfl Mono.rr (fun ρ a W hR hd hf => ?hp8) ?_
          case hp8 =>
            have e132 := Mono.dep_val hd hf (t := 132) (k := 7) (by kernel_rfl) rfl
            have hk := KP.out W hR
            clear hd hf
            (go_simp; try with_reducible rfl)
          refine Mono.rgl_call (fun z W => Sl W W.heap.size 2 z J (lc spC X)) rfl Mono.rr hstSl (fun ρ a W hR hd hf => ?hp9) ?_
          case hp9 =>
            have e133 := Mono.dep_val hd hf (t := 133) (k := 8) (by kernel_rfl) rfl
            clear hd hf
            refine ⟨_, _, by go_simp; first | rfl | exact ⟨rfl, rfl⟩, ?_⟩
            exact (list_any w5.heap.size _ X W (HC2.out W hR) (by have := HJ.out; omega)).mono (by rintro e w' ⟨z, rfl, hr, hb⟩; exact ⟨_, rfl, hb, (by rw [← HJ.out]; exact hr.sl)⟩)
          refine Mono.rgl_call (fun z W => Sl W W.heap.size 2 z J (lc spC X)) rfl Mono.rr hstSl (fun ρ a W hR hd hf => ?hp10) ?_
          case hp10 =>
            obtain ⟨e134, d9⟩ := Mono.dep_get hd hf (t := 134) (k := 9) (by kernel_rfl)
            replace d9 : (fun z W => Sl W W.heap.size 2 z J (lc spC X)) (ρ 9) W := d9
            clear hd hf
            refine ⟨_, _, by go_simp; first | rfl | exact ⟨rfl, rfl⟩, ?_⟩
            exact (refs_any X _ W.heap.size W (by rw [HJ.out]; exact d9) (Nat.le_refl _) (by have := HJ.out; omega)).mono (by rintro e w' ⟨z, rfl, hr, hb⟩; exact ⟨_, rfl, hb, (by rw [← HJ.out]; exact hr.sl)⟩)
          refine Mono.rgl_call (fun z W => Sl W W.heap.size 1 z NA (lc inC ((bytes (ls o)).map (rkA ls 3)))) rfl Mono.rr hstSl (fun ρ a W hR hd hf => ?hp11) ?_
          case hp11 =>
            obtain ⟨e135, d10⟩ := Mono.dep_get hd hf (t := 135) (k := 10) (by kernel_rfl)
            replace d10 : (fun z W => Sl W W.heap.size 2 z J (lc spC X)) (ρ 10) W := d10
            clear hd hf
            refine ⟨_, _, by go_simp; first | rfl | exact ⟨rfl, rfl⟩, ?_⟩
            exact (rplaces_any X _ W.heap.size W (by rw [HJ.out]; exact d10) (Nat.le_refl _) (by have := HJ.out; omega) HXB.out (by rw [HXY.out, List.length_map]; have := HNA.out; omega)).mono (by rintro e w' ⟨z, rfl, hr, hb⟩; exact ⟨_, rfl, hb, (by have h1 := hr.sl; rw [HXY.out, List.length_map, HNA.out] at h1; exact h1)⟩)
          refine Mono.rgl_pred (fun z W => Sl W W.heap.size 1 z NA (lc inC (bytes (ls o)))) rfl hstSl (fun ρ a W hR hd hf => ?hp12) ?_
          case hp12 =>
            obtain ⟨e129, d4⟩ := Mono.dep_get hd hf (t := 129) (k := 4) (by kernel_rfl)
            replace d4 : (fun z W => Sl W W.heap.size 1 z NA (lc inC (bytes (ls o)))) (ρ 4) W := d4
            clear hd hf
            exact ⟨ρ 4, W, by go_simp, Mono.rr W, d4⟩
          refine Mono.rgl_pred (fun z W => Sl W W.heap.size 1 z NA (lc inC ((bytes (ls o)).map (rkA ls 3)))) rfl hstSl (fun ρ a W hR hd hf => ?hp13) ?_
          case hp13 =>
            obtain ⟨e136, d11⟩ := Mono.dep_get hd hf (t := 136) (k := 11) (by kernel_rfl)
            replace d11 : (fun z W => Sl W W.heap.size 1 z NA (lc inC ((bytes (ls o)).map (rkA ls 3)))) (ρ 11) W := d11
            clear hd hf
            exact ⟨ρ 11, W, by go_simp, Mono.rr W, d11⟩
          refine Mono.rgl_done rfl (fun ρ W hR ht => ?_)
          obtain ⟨dp13, dp12, dp11, dp10, dp9, dp8, dp7, dp6, dp5, dp4, dp3, dp2, dp1, dp0, _⟩ := ht
          replace dp4 : (fun z W => Sl W W.heap.size 1 z NA (lc inC (bytes (ls o)))) (ρ 4) W := dp4
          replace dp9 : (fun z W => Sl W W.heap.size 2 z J (lc spC X)) (ρ 9) W := dp9
          replace dp10 : (fun z W => Sl W W.heap.size 2 z J (lc spC X)) (ρ 10) W := dp10
          replace dp11 : (fun z W => Sl W W.heap.size 1 z NA (lc inC ((bytes (ls o)).map (rkA ls 3)))) (ρ 11) W := dp11
          replace dp12 : (fun z W => Sl W W.heap.size 1 z NA (lc inC (bytes (ls o)))) (ρ 12) W := dp12
          replace dp13 : (fun z W => Sl W W.heap.size 1 z NA (lc inC ((bytes (ls o)).map (rkA ls 3)))) (ρ 13) W := dp13
          simp only [List.length_cons, List.length_nil, Nat.reduceAdd] at dp0 dp1 dp2 dp3 dp5 dp6 dp7 dp8
          simp only [Mono.putAll, Nat.reduceAdd, dp0, dp1, dp2, dp3, dp5, dp6, dp7, dp8, Act.put, List.setIfInBounds_toArray, List.set_cons_zero, List.set_cons_succ]
          clear dp0 dp1 dp2 dp3 dp5 dp6 dp7 dp8
          generalize ρ 4 = rp4 at *
          generalize ρ 9 = rp9 at *
          generalize ρ 10 = rp10 at *
          generalize ρ 11 = rp11 at *
          generalize ρ 12 = rp12 at *
          generalize ρ 13 = rp13 at *
          obtain ⟨xa, xc, rfl, _⟩ := dp12.form
          obtain ⟨ya, yc, rfl, _⟩ := dp13.form
          have HXA := Lib.hid dp12
          have HYA := Lib.hid dp13
          have HBR := Lib.hid (HBI.out.trans (hR.mono hzi))
          have e1 : ((NA : Int) != (NA : Int)) = false := by simp
          have e2 : (NA != NA) = false := by simp
          clear dp4 dp9 dp10 dp11 dp12 dp13 hR
          go_wp2_with (fail)
          go_loopw [17] (fun i wr => ∃ j : Nat, i = .int .i64 j ∧ j ≤ NA ∧ Hid (Below W.heap.size W wr)) (fun i _ => NA - (intOf i).toNat)
          case atStart => exact ⟨0, rfl, Nat.zero_le _, Lib.hid (Below.refl _ _)⟩
          case round =>
            obtain ⟨j, rfl, hj, HBJ⟩ := hrel
            obtain ⟨w10, rfl⟩ : ∃ z : World, z = wr := ⟨_, rfl⟩
            by_cases hjN : j < NA
            · as_aux_lemma =>
              have d5 : decide (j < NA) = true := decide_eq_true hjN
              have d6 : decide ((j : Int) < (NA : Int)) = true := decide_eq_true (by omega)
              have q2 : IntKind.i64.wrap ((j : Int) + 1) = (j : Int) + 1 := IntWalk.i64_in _ (by omega)
              have hji : (j : Int) < (NA : Int) := by omega
              obtain ⟨x, hx⟩ : ∃ x, (bytes (ls o))[j]? = some x := ⟨_, List.getElem?_eq_getElem (by rw [HNA.out]; exact hjN)⟩
              have hy : ((bytes (ls o)).map (rkA ls 3))[j]? = some (rkA ls 3 x) := by rw [List.getElem?_map, hx]; rfl
              obtain ⟨k1, k2, hx5, hy5⟩ := HDE.out x (HIN.out x (List.mem_of_getElem? hx)) w10 (HBR.out.trans (HBJ.out.mono HBR.out.size))
              obtain ⟨ab, ao, rfl, _⟩ := sl_cells HXA.out (by omega)
              obtain ⟨yb, yo, rfl, _⟩ := sl_cells HYA.out (by omega)
              have k3 := sl_same (HXA.out.below HBJ.out) (by omega) (j * 1 + 0) _ (lc_get inC_len hx (by omega))
              have k4 := sl_same (HYA.out.below HBJ.out) (by omega) (j * 1 + 0) _ (lc_get inC_len hy (by omega))
              simp only [Nat.mul_one, Nat.add_zero] at k3 k4
              generalize rkA ls 3 x = y at *
              have e3 : decide ((y : Int) < 0) = false := decide_eq_false (by omega)
              have e4 : decide (2000 ≤ (y : Int)) = false := decide_eq_false (by omega)
              have e5 : decide (2000 ≤ y) = false := decide_eq_false (by omega)
              have e6 : (D x != D x) = false := by simp
              have hyi : (y : Int) < 2000 := by omega
              have hxi : (x : Int) < 2000 := by omega
              clear hx hy
              go_upto_region 29 with (fail)
              go_quiet (fail)
              have HB9 := Lib.hid (below_drewN HBJ.out nq)
              clear k1 k2 k3 k4
              generalize w10.drewN nq = w11 at *
              go_wp2_with (fail)
              go_roundw
              case rel => exact ⟨j + 1, rfl, hjN, HB9⟩
              case measure => simp [intOf] <;> omega
            · have d5 : decide (j < NA) = false := decide_eq_false hjN
              have d6 : decide ((j : Int) < (NA : Int)) = false := decide_eq_false (by omega)
              go_wp2_with (fail)
              go_roundw
              case rel => exact ⟨o + 1, rfl, ho3, Lib.hid (HBR.out.trans (HBJ.out.mono HBR.out.size))⟩
              case measure => simp [intOf] <;> omega
        · have d3 : decide (o < 3) = false := decide_eq_false ho3
          have d4 : decide ((o : Int) < 3) = false := decide_eq_false (by omega)
          obtain rfl : o = 3 := by omega
          have HNW : Hid (WF (nowL ls 3) 3) := Lib.hid (now_wf HWF.out)
          have HNS : Hid (sumL (nowL ls 3) 3 ≤ 1000) := Lib.hid (Nat.le_trans (now_sum ls) HSUM.out)
          have HNB := Lib.hid (now_bd HWF.out HBD.out)
          have hcs : ChsA w8 (.slice (some ⟨nb, 0, none⟩) 3 nc) 3 (nowL ls 3) := ⟨ps, (HN.out.below HBI.out).sl, fun i hi => ((HC.out i hi).below HBI.out).mono (Nat.zero_le _)⟩
          have HCS := Lib.hid hcs
          have HHO := Lib.hid (holes_any 3 (nowL ls 3) (.slice (some ⟨nb, 0, none⟩) 3 nc) w8 hcs HNW.out (by omega) HNS.out HNB.out)
          have HHN := Lib.hid (ho_now HWF.out _ (Nat.le_refl _))
          have HPN := Lib.hid (now_moves HWF.out _ (Nat.le_refl _))
          clear hcs
          go_wp2_with (fail)
          refine HHO.out.mono ?_
          rintro e w12 ⟨rfl, hb12⟩
          rw [HHN.out]
          have HPL2 := Lib.hid (plan_any 3 (nowL ls 3) (.slice (some ⟨nb, 0, none⟩) 3 nc) w12 (HCS.out.below hb12) HNW.out (by omega) HNS.out HNB.out)
          have HB12 := Lib.hid (HBI.out.trans (hb12.mono hzi))
          clear hb12 HHO
          go_wp2_with (fail)
          refine HPL2.out.mono ?_
          rintro e w13 ⟨v13, v14, rfl, hs13, hs14, hb13⟩
          rw [HPN.out] at hs13
          obtain ⟨a13, c13, rfl, _⟩ := hs13.form
          obtain ⟨ps14, hp14, _⟩ := hs14
          obtain ⟨a14, c14, rfl, _⟩ := hp14.form
          have HB13 := Lib.hid (HB12.out.trans (hb13.mono HB12.out.size))
          clear hs13 hp14 hb13 HPL2
          go_wp2_with (fail)
          go_ret
          exact ⟨by rfl, HB2.out.trans ((HB.out.trans (HB13.out.mono hzo)).mono HB2.out.size)⟩
end Go.Proofs.Ytfnaoekkdgndkaa
