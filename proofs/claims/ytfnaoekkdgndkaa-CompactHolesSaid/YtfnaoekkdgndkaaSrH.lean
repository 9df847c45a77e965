/- symMerge. -/
import Derived.Test.YtfnaoekkdgndkaaSrG
namespace Go.Proofs.Ytfnaoekkdgndkaa
set_option maxRecDepth 100000
set_option linter.unusedVariables false
set_option linter.unusedSimpArgs false
open Go.RowKit
/-- What a half does: it is merged, or it is in order as it stands. -/
def HalfOK (le : El → El → Prop) (blk n a m b gc cap : Nat) (cb : Array Value) (f : Nat → El) (w : World) : Prop :=
  a < m → m < b → Calls Try.prog 30 #[.slice (some ⟨blk, 0, none⟩) n cap, .int .i64 (a : Nat), .int .i64 (m : Nat), .int .i64 (b : Nat), .func (.func gc) #[] cb] w (InsOut le f blk n a b w)
set_option maxHeartbeats 8000000 in
theorem sym_rec (blk n cap a m b gc : Nat) (cb : Array Value) (cf : El → El → Int) (le : El → El → Prop) (f : Nat → El) (w : World) (hA : Arr w blk n f) (hn : n ≤ 1000000) (h1 : a < m) (h2 : m < b) (hb : b ≤ n)
    (o : Ord le) (hcf : ∀ x y, cf x y < 0 ↔ ¬ le y x) (hl : Srt le f a m) (hr : Srt le f m b) (hC : CmpOK gc cb cf blk w) (heg : ∀ args W, (callFunc gc args).run Try.prog W = .ok (.enter gc args) W) (hone : m ≠ a + 1) (hnot : b ≠ m + 1)
    (IH : ∀ (a' m' b' : Nat) (f' : Nat → El) (w' : World), b' - a' < b - a → b' ≤ n → Arr w' blk n f' → Gr blk w w' → Srt le f' a' m' → Srt le f' m' b' → HalfOK le blk n a' m' b' gc cap cb f' w') :
    Calls Try.prog 30 #[.slice (some ⟨blk, 0, none⟩) n cap, .int .i64 (a : Nat), .int .i64 (m : Nat), .int .i64 (b : Nat), .func (.func gc) #[] cb] w (InsOut le f blk n a b w) := by
  have HA := Lib.hid hA
  have HC := Lib.hid hC
  have HO := Lib.hid o
  have HF := Lib.hid hcf
  have HIH := Lib.hid IH
  have d0 : (((m : Int) - (a : Int)) == 1) = false := by simp; omega
  have d01 : (((b : Int) - (m : Int)) == 1) = false := by simp; omega
  have HL := Lib.hid hl
  have HR := Lib.hid hr
  obtain ⟨mid, hmid⟩ : ∃ z, (a + b) / 2 = z := ⟨_, rfl⟩
  have hmid' : ((a : Int) + (b : Int)) / 2 = (mid : Int) := by omega
  have HMID := Lib.hid hmid.symm
  have HMID' := Lib.hid hmid'
  have hmb : mid < n := by omega
  clear hA hC o hcf hl hr hone hnot IH hmid hmid'
  go_enter Try.func30, Try.ntmps30
  go_upto_region 25 with (fail)
  rw [HMID'.out]
  clear HMID' d0 d01
  have HK := Lib.hid (cut_bd HMID.out h1 h2)
  have q4 : IntKind.i64.wrap ((mid : Int) + (m : Int)) = ((mid + m : Nat) : Int) := by rw [IntWalk.i64_in _ (by omega)]; omega
  obtain ⟨N, hN⟩ : ∃ z, mid + m = z := ⟨_, rfl⟩
  rw [hN] at q4
  have HN := Lib.hid hN
  have hNb : N ≤ 2000000 ∧ m ≤ N ∧ mid ≤ N := by omega
  clear hN
  go_upto_if 140 with (fail)
  go_cut [20, 21] (fun x y wx => ∃ s r : Nat, x = .int .i64 s ∧ y = .int .i64 r ∧ s ≤ r ∧ r ≤ m ∧ Hid (IsCut le f m (cutLo a m b mid) (cutHi m mid) (mid + m) s r) ∧ w = wx)
  case first =>
   as_aux_lemma =>
    have hk := HK.out
    by_cases hc : mid < m
    · have d1 : decide ((mid : Int) < (m : Int)) = true := decide_eq_true (by omega)
      have d3 : decide (mid < m) = true := decide_eq_true (by omega)
      have e1 : N - b = cutLo a m b mid := by have := HN.out; omega
      have e2 : mid = cutHi m mid := by omega
      have q5 : IntKind.i64.wrap ((N : Int) - (b : Int)) = ((N - b : Nat) : Int) := by rw [IntWalk.i64_in _ (by omega)]; have := HN.out; omega
      have HS : Hid (IsCut le f m (cutLo a m b mid) (cutHi m mid) (mid + m) (N - b) mid) := Lib.hid (by
        rw [e1]
        conv => rhs; rw [e2]
        exact ⟨Nat.le_refl _, by omega, Nat.le_refl _, fun c c1 c2 => by omega, fun c c1 c2 => by omega⟩)
      have b1 : N - b ≤ mid := by omega
      have b2 : mid ≤ m := by omega
      clear hk e1 e2
      generalize N - b = s0 at *
      go_wp2_with (fail)
      go_meet
      exact ⟨s0, mid, rfl, rfl, b1, b2, HS, rfl⟩
    · have d1 : decide ((mid : Int) < (m : Int)) = false := decide_eq_false (by omega)
      have d3 : decide (mid < m) = false := decide_eq_false (by omega)
      have e1 : a = cutLo a m b mid := by omega
      have e2 : m = cutHi m mid := by omega
      have HS : Hid (IsCut le f m (cutLo a m b mid) (cutHi m mid) (mid + m) a m) := Lib.hid (by
        rw [← e1, ← e2]
        exact ⟨Nat.le_refl _, by omega, Nat.le_refl _, fun c c1 c2 => by omega, fun c c1 c2 => by omega⟩)
      clear hk e1 e2
      go_wp2_with (fail)
      go_meet
      exact ⟨a, m, rfl, rfl, by omega, Nat.le_refl _, HS, rfl⟩
  case rest =>
  obtain ⟨s0, r0, rfl, rfl, sr0, rm0, HS, rfl⟩ := hcut
  have q5 : IntKind.i64.wrap ((N : Int) - 1) = (N : Int) - 1 := IntWalk.i64_in _ (by omega)
  clear q4
  go_wp2_with (fail)
  go_loopw [20, 21] (fun x y wr => ∃ s r : Nat, x = .int .i64 s ∧ y = .int .i64 r ∧ s ≤ r ∧ r ≤ m ∧ Hid (IsCut le f m (cutLo a m b mid) (cutHi m mid) (mid + m) s r) ∧ Hid (Arr wr blk n f) ∧ Hid (Gr blk w wr)) (fun x y _ => (intOf y - intOf x).toNat)
  case atStart => exact ⟨s0, r0, rfl, rfl, sr0, rm0, HS, HA, Lib.hid (Gr.refl _ _)⟩
  case round =>
    clear HA HS sr0 rm0
    obtain ⟨s, r, rfl, rfl, sr, rm, HS, HA, HG⟩ := hrel
    obtain ⟨wo, rfl⟩ : ∃ z : World, z = wr := ⟨_, rfl⟩
    by_cases hlt : s < r
    · as_aux_lemma =>
      have d1 : decide (s < r) = true := decide_eq_true hlt
      have d2 : decide ((s : Int) < (r : Int)) = true := decide_eq_true (by omega)
      obtain ⟨c, hh⟩ : ∃ c, (s + r) / 2 = c := ⟨_, rfl⟩
      have hh' : ((s : Int) + (r : Int)) / 2 = (c : Int) := by omega
      have h3 : s ≤ c ∧ c < r := by omega
      have hk := HK.out
      have hs1 := HS.out.l1
      have hs3 := HS.out.l3
      have hNN := HN.out
      obtain ⟨pc, hpc⟩ : ∃ z, N - 1 - c = z := ⟨_, rfl⟩
      have b1 : pc < n := by omega
      have b2 : c < n := by omega
      have b3 : (pc : Int) < (n : Int) := by omega
      have b4 : (c : Int) < (n : Int) := by omega
      have q6 : IntKind.i64.wrap ((N : Int) - 1 - (c : Int)) = (pc : Int) := by rw [IntWalk.i64_in _ (by omega)]; omega
      have q7 : IntKind.i64.wrap ((c : Int) + 1) = ((c + 1 : Nat) : Int) := by rw [IntWalk.i64_in _ (by omega)]; omega
      have HPC : Hid (pc = mid + m - 1 - c) := Lib.hid (by omega)
      have HH' := Lib.hid hh'
      clear hh hh' hk hs1 hs3 hNN hpc
      go_upto_region 35 with (fail)
      rw [HH'.out]
      clear HH'
      refine Mono.region_below (by kernel_rfl) (by kernel_rfl) (by kernel_rfl) ?_
      refine Mono.rgl_val (v := ?vp0) rfl Mono.rr (fun ρ act W hR hd hf => ?hp0) ?_
      case hp0 =>
        have e4 := Mono.init_get hf (t := 4) (by kernel_rfl)
        clear hd hf
        (go_simp; try with_reducible rfl)
      refine Mono.rgl_val (v := ?vp1) rfl Mono.rr (fun ρ act W hR hd hf => ?hp1) ?_
      case hp1 =>
        have e0 := Mono.init_get hf (t := 0) (by kernel_rfl)
        clear hd hf
        (go_simp; try with_reducible rfl)
      refine Mono.rgl_val (v := ?vp2) rfl Mono.rr (fun ρ act W hR hd hf => ?hp2) ?_
      case hp2 =>
        have e22 := Mono.init_get hf (t := 22) (by kernel_rfl)
        clear hd hf
        (go_simp; try with_reducible rfl)
      refine Mono.rgl_val (v := ?vp3) rfl Mono.rr (fun ρ act W hR hd hf => ?hp3) ?_
      case hp3 =>
        have e23 := Mono.init_get hf (t := 23) (by kernel_rfl)
        clear hd hf
        (go_simp; try with_reducible rfl)
      refine Mono.rgl_val (v := ?vp4) rfl Mono.rr (fun ρ act W hR hd hf => ?hp4) ?_
      case hp4 =>
        have e160 := Mono.dep_val hd hf (t := 160) (k := 2) (by kernel_rfl) rfl
        have e161 := Mono.dep_val hd hf (t := 161) (k := 3) (by kernel_rfl) rfl
        clear hd hf
        (go_simp; try with_reducible rfl)
      refine Mono.rgl_val (v := ?vp5) rfl Mono.rr (fun ρ act W hR hd hf => ?hp5) ?_
      case hp5 =>
        have e159 := Mono.dep_val hd hf (t := 159) (k := 1) (by kernel_rfl) rfl
        have e162 := Mono.dep_val hd hf (t := 162) (k := 4) (by kernel_rfl) rfl
        clear hd hf
        (go_simp; try with_reducible rfl)
      refine Mono.rgl_val (v := ?vp6) rfl Mono.rr (fun ρ act W hR hd hf => ?hp6) ?_
      case hp6 =>
        have e163 := Mono.dep_val hd hf (t := 163) (k := 5) (by kernel_rfl) rfl
        obtain ⟨hk, hk1, hk2, hk3⟩ := (HA.out.up hR).four pc b1
        clear hd hf
        (go_simp; try with_reducible rfl)
      refine Mono.rgl_val (v := ?vp7) rfl Mono.rr (fun ρ act W hR hd hf => ?hp7) ?_
      case hp7 =>
        have e0 := Mono.init_get hf (t := 0) (by kernel_rfl)
        clear hd hf
        (go_simp; try with_reducible rfl)
      refine Mono.rgl_val (v := ?vp8) rfl Mono.rr (fun ρ act W hR hd hf => ?hp8) ?_
      case hp8 =>
        have e23 := Mono.init_get hf (t := 23) (by kernel_rfl)
        clear hd hf
        (go_simp; try with_reducible rfl)
      refine Mono.rgl_val (v := ?vp9) rfl Mono.rr (fun ρ act W hR hd hf => ?hp9) ?_
      case hp9 =>
        have e165 := Mono.dep_val hd hf (t := 165) (k := 7) (by kernel_rfl) rfl
        have e166 := Mono.dep_val hd hf (t := 166) (k := 8) (by kernel_rfl) rfl
        clear hd hf
        (go_simp; try with_reducible rfl)
      refine Mono.rgl_val (v := ?vp10) rfl Mono.rr (fun ρ act W hR hd hf => ?hp10) ?_
      case hp10 =>
        have e167 := Mono.dep_val hd hf (t := 167) (k := 9) (by kernel_rfl) rfl
        obtain ⟨hk, hk1, hk2, hk3⟩ := (HA.out.up hR).four c b2
        clear hd hf
        (go_simp; try with_reducible rfl)
      refine Mono.rgl_call (fun x _ => x = .int .i64 (cf (f pc) (f c))) rfl Mono.rr (fun _ _ _ h _ => h) (fun ρ act W hR hd hf => ?hp11) ?_
      case hp11 =>
        have e158 := Mono.dep_val hd hf (t := 158) (k := 0) (by kernel_rfl) rfl
        have e164 := Mono.dep_val hd hf (t := 164) (k := 6) (by kernel_rfl) rfl
        have e168 := Mono.dep_val hd hf (t := 168) (k := 10) (by kernel_rfl) rfl
        clear hd hf
        refine ⟨_, _, by go_simp; first | rfl | exact ⟨rfl, rfl⟩, ?_⟩
        exact (HC.out W (HG.out.up hR) (f pc) (f c)).mono (by rintro e w' ⟨rfl, hb⟩; exact ⟨_, rfl, hb, rfl⟩)
      refine Mono.rgl_val (v := ?vp12) rfl Mono.rr (fun ρ act W hR hd hf => ?hp12) ?_
      case hp12 =>
        have e169 := Mono.dep_val hd hf (t := 169) (k := 11) (by kernel_rfl) rfl
        clear hd hf
        (go_simp; try with_reducible rfl)
      refine Mono.rgl_val (v := ?vp13) rfl Mono.rr (fun ρ act W hR hd hf => ?hp13) ?_
      case hp13 =>
        have e170 := Mono.dep_val hd hf (t := 170) (k := 12) (by kernel_rfl) rfl
        clear hd hf
        (go_simp; try with_reducible rfl)
      refine Mono.rgl_done rfl (fun ρ W hR ht => ?_)
      obtain ⟨dp13, dp12, dp11, dp10, dp9, dp8, dp7, dp6, dp5, dp4, dp3, dp2, dp1, dp0, _⟩ := ht
      simp only [List.length_cons, List.length_nil, Nat.reduceAdd] at dp0 dp1 dp2 dp3 dp4 dp5 dp6 dp7 dp8 dp9 dp10 dp11 dp12 dp13
      simp only [Mono.putAll, Nat.reduceAdd, dp0, dp1, dp2, dp3, dp4, dp5, dp6, dp7, dp8, dp9, dp10, dp11, dp12, dp13, Act.put, List.setIfInBounds_toArray, List.set_cons_zero, List.set_cons_succ]
      clear dp0 dp1 dp2 dp3 dp4 dp5 dp6 dp7 dp8 dp9 dp10 dp11 dp12 dp13
      have HA := Lib.hid (HA.out.up hR)
      have HG := Lib.hid (HG.out.up hR)
      clear hR
      cases hd : decide (cf (f pc) (f c) < 0)
      · have HS2 := Lib.hid (IsCut.yes HO.out HMID.out h1 h2 HL.out HR.out HS.out h3.1 h3.2 (by rw [← HPC.out]; exact Classical.byContradiction fun q => of_decide_eq_false hd ((HF.out _ _).2 q)))
        clear hd
        go_wp2_with (fail)
        go_roundw
        case rel => exact ⟨c + 1, r, rfl, rfl, by omega, rm, HS2, HA, HG⟩
        case measure => simp [intOf] <;> omega
      · have HS2 := Lib.hid (IsCut.no HO.out HMID.out h1 h2 HL.out HR.out HS.out h3.1 h3.2 (by rw [← HPC.out]; exact HO.out.not ((HF.out _ _).1 (of_decide_eq_true hd))))
        clear hd
        go_wp2_with (fail)
        go_roundw
        case rel => exact ⟨s, c, rfl, rfl, h3.1, by omega, HS2, HA, HG⟩
        case measure => simp [intOf] <;> omega
    · have d1 : decide (s < r) = false := decide_eq_false hlt
      have d2 : decide ((s : Int) < (r : Int)) = false := decide_eq_false (by omega)
      obtain rfl : s = r := by omega
      obtain ⟨hb8, hhv⟩ := IsCut.halves HO.out HMID.out h1 h2 HL.out HR.out HS.out
      have hNN := HN.out
      obtain ⟨en, hen⟩ : ∃ z, mid + m - s = z := ⟨_, rfl⟩
      rw [hen] at hb8 hhv
      have q6 : IntKind.i64.wrap ((N : Int) - (s : Int)) = (en : Int) := by rw [IntWalk.i64_in _ (by omega)]; omega
      obtain ⟨g1, g2, g3, g4, g5, g6, g7, g8⟩ := hb8
      have hes : Sw a b f (rotF f s m en) := rotF_sw' f a b s m en g1 g2 g4 g5
      have hrl := fun hc : m = s => rotF_left f s m en hc
      have hrr := fun hc : m = en => rotF_right f s m en hc g2
      have HV := Lib.hid hhv
      have HES := Lib.hid hes
      have HRL := Lib.hid hrl
      have HRR := Lib.hid hrr
      have HROT := Lib.hid (fun c1 c2 => rotate_any blk n cap s m en f (.func (.func gc) #[] cb) wo HA.out hn c1 c2 (by omega))
      clear hNN hen hhv hes hrl hrr HL HR HS HN HK hlt HMID HC d1 d2
      generalize rotF f s m en = h at *
      go_upto_region 39 with (fail)
      go_cut [185] (fun v wx => v = .bool (decide (s < m) && decide (m < en)) ∧ wo = wx)
      case first =>
       as_aux_lemma =>
        cases hc : decide (s < m)
        · have d3 : decide ((s : Int) < (m : Int)) = false := decide_eq_false (by have := of_decide_eq_false hc; omega)
          go_wp2_with (fail)
          go_meet
          exact ⟨by rw [hc]; rfl, rfl⟩
        · have d3 : decide ((s : Int) < (m : Int)) = true := decide_eq_true (by have := of_decide_eq_true hc; omega)
          cases hc2 : decide (m < en)
          · have d4 : decide ((m : Int) < (en : Int)) = false := decide_eq_false (by have := of_decide_eq_false hc2; omega)
            go_wp2_with (fail)
            go_meet
            exact ⟨by rw [hc, hc2]; rfl, rfl⟩
          · have d4 : decide ((m : Int) < (en : Int)) = true := decide_eq_true (by have := of_decide_eq_true hc2; omega)
            go_wp2_with (fail)
            go_meet
            exact ⟨by rw [hc, hc2]; rfl, rfl⟩
      case rest =>
      obtain ⟨rfl, rfl⟩ := hcut
      go_upto_if 185 with (fail)
      go_cut [20] (fun v wx => ∃ z : World, z = wx ∧ v = .int .i64 (s : Nat) ∧ Hid (Arr wx blk n h) ∧ Hid (Gr blk w wx))
      case first =>
       as_aux_lemma =>
        by_cases hc : s < m ∧ m < en
        · have e1 : (decide (s < m) && decide (m < en)) = true := by simp [hc.1, hc.2]
          rw [e1]
          have HW := Lib.hid (HROT.out hc.1 hc.2)
          clear e1 hc
          go_wp2_with (fail)
          refine HW.out.mono ?_
          rintro e w1 ⟨rfl, ha, hg⟩
          have HA := Lib.hid ha
          have HG := Lib.hid (HG.out.trans hg)
          clear ha hg
          go_wp2_with (fail)
          go_meet
          exact ⟨_, rfl, rfl, HA, HG⟩
        · have e1 : (decide (s < m) && decide (m < en)) = false := by
            rw [Bool.and_eq_false_iff]
            by_cases c : s < m
            · right; exact decide_eq_false (by omega)
            · left; exact decide_eq_false c
          rw [e1]
          have HA2 : Hid (Arr wo blk n h) := Lib.hid (by
            by_cases c : s < m
            · rw [HRR.out (by omega)]; exact HA.out
            · rw [HRL.out (by omega)]; exact HA.out)
          clear e1 hc
          go_wp2_with (fail)
          go_meet
          exact ⟨_, rfl, rfl, HA2, HG⟩
      case rest =>
      clear HA HG HROT HRL HRR
      obtain ⟨w3, rfl, rfl, HA, HG⟩ := hcut
      have HLEFT := Lib.hid (HIH.out a s mid h w3 (by omega) (by omega) HA.out HG.out HV.out.l1 HV.out.l2)
      go_upto_region 41 with (fail)
      go_cut [199] (fun v wx => v = .bool (decide (a < s) && decide (s < mid)) ∧ w3 = wx)
      case first =>
       as_aux_lemma =>
        cases hc : decide (a < s)
        · have d3 : decide ((a : Int) < (s : Int)) = false := decide_eq_false (by have := of_decide_eq_false hc; omega)
          go_wp2_with (fail)
          go_meet
          exact ⟨by rw [hc]; rfl, rfl⟩
        · have d3 : decide ((a : Int) < (s : Int)) = true := decide_eq_true (by have := of_decide_eq_true hc; omega)
          cases hc2 : decide (s < mid)
          · have d4 : decide ((s : Int) < (mid : Int)) = false := decide_eq_false (by have := of_decide_eq_false hc2; omega)
            go_wp2_with (fail)
            go_meet
            exact ⟨by rw [hc, hc2]; rfl, rfl⟩
          · have d4 : decide ((s : Int) < (mid : Int)) = true := decide_eq_true (by have := of_decide_eq_true hc2; omega)
            go_wp2_with (fail)
            go_meet
            exact ⟨by rw [hc, hc2]; rfl, rfl⟩
      case rest =>
      obtain ⟨rfl, rfl⟩ := hcut
      go_upto_if 199 with (fail)
      go_cut [20] (fun v wx => ∃ z : World, z = wx ∧ v = .int .i64 (s : Nat) ∧ ∃ h', Hid (Arr wx blk n h') ∧ Hid (Gr blk w wx) ∧ Hid (Sw a mid h h') ∧ Hid (Srt le h' a mid))
      case first =>
       as_aux_lemma =>
        by_cases hc : a < s ∧ s < mid
        · have e1 : (decide (a < s) && decide (s < mid)) = true := by simp [hc.1, hc.2]
          rw [e1]
          have HW := Lib.hid (HLEFT.out hc.1 hc.2)
          clear e1 hc
          go_wp2_with (fail)
          refine HW.out.mono ?_
          rintro e w1 ⟨rfl, ⟨h', hs', ht', ha'⟩, hg⟩
          have HA := Lib.hid ha'
          have HG := Lib.hid (HG.out.trans hg)
          have HS' := Lib.hid hs'
          have HT' := Lib.hid ht'
          clear ha' hg hs' ht'
          go_wp2_with (fail)
          go_meet
          exact ⟨_, rfl, rfl, h', HA, HG, HS', HT'⟩
        · have e1 : (decide (a < s) && decide (s < mid)) = false := by
            rw [Bool.and_eq_false_iff]
            by_cases c : a < s
            · right; exact decide_eq_false (by omega)
            · left; exact decide_eq_false c
          rw [e1]
          have HT' : Hid (Srt le h a mid) := Lib.hid (by
            by_cases c : a < s
            · have := HV.out.l1; rwa [show s = mid by omega] at this
            · have := HV.out.l2; rwa [show s = a by omega] at this)
          clear e1 hc
          go_wp2_with (fail)
          go_meet
          exact ⟨_, rfl, rfl, h, HA, HG, Lib.hid .refl, HT'⟩
      case rest =>
      clear HA HG HLEFT
      obtain ⟨w5, rfl, rfl, h1', HA, HG, HS1, HT1⟩ := hcut
      have HE : Hid (∀ k, mid ≤ k → h1' k = h k) := Lib.hid (fun k hk => HS1.out.out k (.inr hk))
      have HRIGHT := Lib.hid (HIH.out mid en b h1' w5 (by omega) (by omega) HA.out HG.out (HV.out.r1.congr fun k k1 _ => HE.out k k1) (HV.out.r2.congr fun k k1 _ => HE.out k (by omega)))
      go_upto_region 43 with (fail)
      go_cut [213] (fun v wx => v = .bool (decide (mid < en) && decide (en < b)) ∧ w5 = wx)
      case first =>
       as_aux_lemma =>
        cases hc : decide (mid < en)
        · have d3 : decide ((mid : Int) < (en : Int)) = false := decide_eq_false (by have := of_decide_eq_false hc; omega)
          go_wp2_with (fail)
          go_meet
          exact ⟨by rw [hc]; rfl, rfl⟩
        · have d3 : decide ((mid : Int) < (en : Int)) = true := decide_eq_true (by have := of_decide_eq_true hc; omega)
          cases hc2 : decide (en < b)
          · have d4 : decide ((en : Int) < (b : Int)) = false := decide_eq_false (by have := of_decide_eq_false hc2; omega)
            go_wp2_with (fail)
            go_meet
            exact ⟨by rw [hc, hc2]; rfl, rfl⟩
          · have d4 : decide ((en : Int) < (b : Int)) = true := decide_eq_true (by have := of_decide_eq_true hc2; omega)
            go_wp2_with (fail)
            go_meet
            exact ⟨by rw [hc, hc2]; rfl, rfl⟩
      case rest =>
      obtain ⟨rfl, rfl⟩ := hcut
      by_cases hc : mid < en ∧ en < b
      · as_aux_lemma =>
        have e1 : (decide (mid < en) && decide (en < b)) = true := by simp [hc.1, hc.2]
        rw [e1]
        have HW := Lib.hid (HRIGHT.out hc.1 hc.2)
        clear e1 hc
        go_wp2_with (fail)
        refine HW.out.mono ?_
        rintro e w1 ⟨rfl, ⟨h', hs', ht', ha'⟩, hg⟩
        have HA := Lib.hid ha'
        have HG := Lib.hid (HG.out.trans hg)
        have HS' := Lib.hid hs'
        have HT' := Lib.hid ht'
        clear ha' hg hs' ht'
        go_wp2_with (fail)
        go_end0
        exact InsOut.mk (HES.out.trans ((HS1.out.mono (Nat.le_refl _) (by omega)).trans (HS'.out.mono (by omega) (Nat.le_refl _)))) (HV.out.done (by omega) (by omega) HS1.out HT1.out HS'.out HT'.out) HA.out HG.out
      · have e1 : (decide (mid < en) && decide (en < b)) = false := by
          rw [Bool.and_eq_false_iff]
          by_cases c : mid < en
          · right; exact decide_eq_false (by omega)
          · left; exact decide_eq_false c
        rw [e1]
        have HT' : Hid (Srt le h1' mid b) := Lib.hid (by
          by_cases c : mid < en
          · have := HV.out.r1; rw [show en = b by omega] at this; exact this.congr fun k k1 _ => HE.out k k1
          · have := HV.out.r2; rw [show en = mid by omega] at this; exact this.congr fun k k1 _ => HE.out k k1)
        clear e1 hc
        go_wp2_with (fail)
        go_end0
        exact InsOut.mk (HES.out.trans (HS1.out.mono (Nat.le_refl _) (by omega))) (HV.out.done (by omega) (by omega) HS1.out HT1.out .refl HT'.out) HA.out HG.out
end Go.Proofs.Ytfnaoekkdgndkaa
