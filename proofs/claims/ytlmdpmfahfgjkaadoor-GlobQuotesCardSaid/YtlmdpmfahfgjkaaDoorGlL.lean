/- glob: the places of a text: one. -/
import Derived.Test.YtlmdpmfahfgjkaaDoorGlK
import Derived.Test.YtlmdpmfahfgjkaaDoorMonoT
import Derived.BigQuiet
namespace Go.Proofs.YtlmdpmfahfgjkaaDoor
set_option maxRecDepth 100000
set_option linter.unusedVariables false
set_option linter.unusedSimpArgs false
open Go.RowKit
def oneT (s : List Int) (t : Int → Bool) (B : Nat → Bool) (T j : Nat) : Nat → Bool := fun k => if j < k ∧ k ≤ T then (B (k - 1) && t (s.getD (k - 1) 0)) else B k
theorem oneT_start (s : List Int) (t : Int → Bool) (B : Nat → Bool) (T : Nat) : oneT s t B T T = B := by
  funext k; unfold oneT; rw [if_neg (by omega)]
theorem oneT_self (s : List Int) (t : Int → Bool) (B : Nat → Bool) (T j : Nat) : oneT s t B T j j = B j := by
  unfold oneT; rw [if_neg (by omega)]
theorem oneT_low (s : List Int) (t : Int → Bool) (B : Nat → Bool) (T j k : Nat) (h : k ≤ j) : oneT s t B T j k = B k := by
  unfold oneT; rw [if_neg (by omega)]
theorem oneT_step (s : List Int) (t : Int → Bool) (B : Nat → Bool) (T i : Nat) (h : i < T) : upd (oneT s t B T (i + 1)) (i + 1) (B i && t (s.getD i 0)) = oneT s t B T i := by
  funext k
  unfold upd oneT
  by_cases e : k = i + 1
  · subst e
    rw [if_pos rfl, if_pos (by omega)]
    rfl
  · rw [if_neg e]
    by_cases c : i < k ∧ k ≤ T
    · rw [if_pos c, if_pos (by omega)]
    · rw [if_neg c, if_neg (by omega)]
/-- The places behind one sign more: E. -/
structure OE (s : List Int) (t : Int → Bool) (B E : Nat → Bool) (lo T : Nat) : Prop where
  iff : ∀ k, E k = true ↔ stepR s t (Is B) k
  low : ∀ k, k < lo + 1 → E k = false
  high : ∀ k, T < k → E k = false
theorem oe_of (s : List Int) (t : Int → Bool) (B : Nat → Bool) (lo hi T : Nat) (h : PL s.length B lo hi) (hT : T = min (hi + 1) s.length) : OE s t B (upd (oneT s t B T lo) lo false) lo T := by
  have h1 := h.le
  have h2 := h.hn
  have key : ∀ k, upd (oneT s t B T lo) lo false k = true ↔ stepR s t (Is B) k := by
    intro k
    unfold upd oneT stepR Is
    constructor
    · intro e
      split at e
      · cases e
      · split at e
        · rename_i c
          rw [Bool.and_eq_true] at e
          exact ⟨k - 1, by omega, by omega, e.1, e.2⟩
        · rename_i a c
          exfalso
          by_cases q : k < lo
          · rw [h.low k q] at e; cases e
          · rw [h.high k (by omega)] at e; cases e
    · rintro ⟨j, rfl, hj, hB, ht⟩
      have g1 : lo ≤ j := by
        refine Nat.le_of_not_lt fun q => ?_
        rw [h.low j q] at hB; cases hB
      have g2 : j ≤ hi := by
        refine Nat.le_of_not_lt fun q => ?_
        rw [h.high j q] at hB; cases hB
      rw [if_neg (by omega), if_pos (by omega), Nat.add_sub_cancel, hB, ht]
      rfl
  refine ⟨key, fun k hk => ?_, fun k hk => ?_⟩
  · rw [Bool.eq_false_iff]
    intro e
    obtain ⟨j, rfl, hj, hB, _⟩ := (key k).1 e
    unfold Is at hB
    rw [h.low j (by omega)] at hB
    cases hB
  · rw [Bool.eq_false_iff]
    intro e
    obtain ⟨j, rfl, hj, hB, _⟩ := (key k).1 e
    unfold Is at hB
    rw [h.high j (by omega)] at hB
    cases hB
/-- What one does. -/
def One_p (pb ib sb off cap : Nat) (l : List Int) (t : Int → Bool) (B : Nat → Bool) (w : World) (e : Ending) (w' : World) : Prop :=
  (∃ r, e = .returned (.bool r) ∧ (r = true → ∃ C lo hi, PS pb ib sb off cap l w' C lo hi ∧ PL l.length C lo hi ∧ ∀ k, k ≤ l.length → (Is C k ↔ stepR l t (Is B) k)) ∧ (r = false → ∀ k, ¬ stepR l t (Is B) k)) ∧ Below ib w w'
theorem one_no {pb ib sb off cap : Nat} {l : List Int} {t : Int → Bool} {B E : Nat → Bool} {w w' : World} {lo T : Nat} (h : OE l t B E lo T) (hall : ∀ k, E k = false) (hb : Below ib w w') : One_p pb ib sb off cap l t B w (.returned (.bool false)) w' :=
  ⟨⟨false, rfl, fun h => (by cases h), fun _ k hk => by rw [← h.iff k, hall k] at hk; cases hk⟩, hb⟩
theorem one_yes {pb ib sb off cap : Nat} {l : List Int} {t : Int → Bool} {B E : Nat → Bool} {w w' : World} {lo T a h : Nat} (he : OE l t B E lo T) (hT : T ≤ l.length) (h1 : a ≤ h) (h2 : h ≤ T) (ha : E a = true) (hh : E h = true) (hlo : ∀ k, k < a → E k = false) (hhi : ∀ k, h < k → E k = false) (hp : PS pb ib sb off cap l w' E a h) (hb : Below ib w w') : One_p pb ib sb off cap l t B w (.returned (.bool true)) w' :=
  ⟨⟨true, rfl, fun _ => ⟨E, a, h, hp, ⟨h1, by omega, ha, hh, hlo, hhi⟩, fun k _ => he.iff k⟩, fun h => (by cases h)⟩, hb⟩
def cellN (w : World) (p : Addr) : Int := match w.cell? p with | some (.int _ x) => x | _ => 0
set_option maxHeartbeats 16000000 in
theorem one_any (pb ib sb off cap : Nat) (l : List Int) (p : PartV) (u : Value) (Bu : Nat) (w : World) (B : Nat → Bool) (lo hi : Nat) (h : PS pb ib sb off cap l w B lo hi) (hpl : PL l.length B lo hi) (hl : l.length ≤ 2000000)
    (hs : Sl w Bu 2 u p.rs.length (rcells .i32 p.rs)) (hBu : Bu ≤ ib) (hrl : p.rs.length ≤ 2000000) (hm : many p = false) :
    Calls Tryd.prog 23 #[.pointer (some ⟨pb, 0, none⟩), .agg #[.int .i64 p.kind, .int .i32 p.sign, u, .bool p.neg]] w (One_p pb ib sb off cap l (takes p) B w) := by
  obtain ⟨ax, cx, rfl, hcx⟩ := hs.form
  have ho := h.o
  have hle := hpl.le
  have hhn := hpl.hn
  obtain ⟨T, hT⟩ : ∃ T, T = min (hi + 1) l.length := ⟨_, rfl⟩
  have HE := Lib.hid (oe_of l (takes p) B lo hi T hpl hT)
  have hT1 : T ≤ l.length := by omega
  have hT2 : lo ≤ T := by omega
  have hA1 := (Below.refl w.heap.size w).alloc (Nat.le_refl _) (.cells #[.int .i64 p.kind, .int .i32 p.sign, .slice ax p.rs.length cx, .bool p.neg] 35)
  have HP := Lib.hid (h.below hA1)
  have HX := Lib.hid (Own.new_at w [.int .i64 p.kind, .int .i32 p.sign, .slice ax p.rs.length cx, .bool p.neg] 35 w.heap.size rfl)
  have HB := Lib.hid (hA1.mono (show ib ≤ w.heap.size by omega))
  have hz1 : w.heap.size < (w.alloc (.cells #[.int .i64 p.kind, .int .i32 p.sign, .slice ax p.rs.length cx, .bool p.neg] 35)).heap.size := by simp
  have HS := Lib.hid (fun (W : World) (hW : Below ib w W) => hs.below (hW.mono hBu))
  have htop : min ((hi : Nat) : Int) (((l.length : Nat) : Int) - 1) = (T : Int) - 1 := by omega
  have qn : IntKind.i64.wrap (((l.length : Nat) : Int) - 1) = ((l.length : Nat) : Int) - 1 := IntWalk.i64_in _ (by omega)
  clear hA1 hs h hT
  go_enter Tryd.func23, Tryd.ntmps23
  go_upto_region 1 with (fail)
  generalize w.alloc (.cells #[.int .i64 p.kind, .int .i32 p.sign, .slice ax p.rs.length cx, .bool p.neg] 35) = w1 at *
  have hbx : pb < w.heap.size := ho.2.2
  generalize w.heap.size = bx at *
  have y0 := HP.out.p.1 0 _ rfl
  have y3 := HP.out.p.1 3 _ rfl
  go_quiet (fail)
  have hb := below_drewN (Below.refl w1.heap.size w1) nq
  have HP := Lib.hid (HP.out.below hb)
  have HX := Lib.hid (HX.out.below hb hz1)
  have HB := Lib.hid (below_drewN HB.out nq)
  have hz1 : bx < (w1.drewN nq).heap.size := hz1
  clear hb y0 y3 htop qn
  generalize w1.drewN nq = w2 at *
  go_wp2_with (fail)
  go_loopw [6] (fun i wr => ∃ (x : Int) (j : Nat), i = .int .i64 x ∧ x = (j : Int) - 1 ∧ lo ≤ j ∧ j ≤ T ∧ bx < wr.heap.size ∧ Hid (PS pb ib sb off cap l wr (oneT l (takes p) B T j) lo hi) ∧ Hid (Own wr bx [.int .i64 p.kind, .int .i32 p.sign, .slice ax p.rs.length cx, .bool p.neg]) ∧ Hid (Below ib w wr)) (fun i _ => (intOf i + 1).toNat)
  case atStart => exact ⟨_, T, rfl, rfl, by omega, Nat.le_refl _, hz1, Lib.hid (by rw [oneT_start]; exact HP.out), HX, HB⟩
  case round =>
    clear HP HX HB hz1
    obtain ⟨x, j, rfl, hx, hj1, hj2, hzr, HP, HX, HB⟩ := hrel
    have y2 := HP.out.p.1 2 _ rfl
    by_cases hlt : lo < j
    rotate_left
    · have d1 : decide ((lo : Int) ≤ x) = false := decide_eq_false (by omega)
      have e : lo = j := by omega
      subst e
      clear hx hlt
      go_upto_region 6 with (fail)
      refine Mono.region_tail 8 (by kernel_rfl) (by kernel_rfl) (by kernel_rfl) (by kernel_rfl) ?_
      simp only [List.take_succ_cons, List.take_zero]
      refine Mono.hgl_val (v := ?ve0) rfl Mono.rr (fun ρ a W hR hd hf => ?he0) ?_
      case he0 =>
        have e0 := Mono.init_get hf (t := 0) (by kernel_rfl)
        clear hd hf
        (go_simp; try with_reducible rfl)
      refine Mono.hgl_val (v := ?ve1) rfl Mono.rr (fun ρ a W hR hd hf => ?he1) ?_
      case he1 =>
        have e52 := Mono.dep_val hd hf (t := 52) (k := 0) (by kernel_rfl) rfl
        clear hd hf
        (go_simp; try with_reducible rfl)
      refine Mono.hgl_val (v := ?ve2) rfl Mono.rr (fun ρ a W hR hd hf => ?he2) ?_
      case he2 =>
        have e53 := Mono.dep_val hd hf (t := 53) (k := 1) (by kernel_rfl) rfl
        clear hd hf
        (go_simp; try with_reducible rfl)
      refine Mono.hgl_val (v := ?ve3) rfl Mono.rr (fun ρ a W hR hd hf => ?he3) ?_
      case he3 =>
        have e54 := Mono.dep_val hd hf (t := 54) (k := 2) (by kernel_rfl) rfl
        have hkp := (HP.out.below hR)
        have hk := hkp.p.1 1 _ rfl
        clear hd hf
        (go_simp; try with_reducible rfl)
      refine Mono.hgl_val (v := ?ve4) rfl Mono.rr (fun ρ a W hR hd hf => ?he4) ?_
      case he4 =>
        have e0 := Mono.init_get hf (t := 0) (by kernel_rfl)
        clear hd hf
        (go_simp; try with_reducible rfl)
      refine Mono.hgl_val (v := ?ve5) rfl Mono.rr (fun ρ a W hR hd hf => ?he5) ?_
      case he5 =>
        have e56 := Mono.dep_val hd hf (t := 56) (k := 4) (by kernel_rfl) rfl
        clear hd hf
        (go_simp; try with_reducible rfl)
      refine Mono.hgl_val (v := ?ve6) rfl Mono.rr (fun ρ a W hR hd hf => ?he6) ?_
      case he6 =>
        have e57 := Mono.dep_val hd hf (t := 57) (k := 5) (by kernel_rfl) rfl
        clear hd hf
        (go_simp; try with_reducible rfl)
      refine Mono.hgl_val (v := ?ve7) rfl Mono.rr (fun ρ a W hR hd hf => ?he7) ?_
      case he7 =>
        have e58 := Mono.dep_val hd hf (t := 58) (k := 6) (by kernel_rfl) rfl
        have hkp := (HP.out.below hR)
        have hk := hkp.p.1 2 _ rfl
        clear hd hf
        (go_simp; try with_reducible rfl)
      refine Mono.hgl_done rfl (by decide) (fun ρ W hR ht => ?_)
      simp only [List.take_succ_cons, List.take_zero, List.drop_succ_cons, List.drop_zero]
      obtain ⟨de7, de6, de5, de4, de3, de2, de1, de0, _⟩ := ht
      simp only [List.length_cons, List.length_nil, Nat.reduceAdd] at de0 de1 de2 de3 de4 de5 de6 de7
      simp only [Mono.putAll, Nat.reduceAdd, de0, de1, de2, de3, de4, de5, de6, de7, Act.put, List.setIfInBounds_toArray, List.set_cons_zero, List.set_cons_succ]
      clear de0 de1 de2 de3 de4 de5 de6 de7
      have hkp := HP.out.below hR
      have k1 := hkp.get lo (by omega)
      have f1 := hkp.i.2
      have hlt2 : (lo : Int) < (l.length : Int) + 1 := by omega
      have hlt3 : lo < l.length + 1 := by omega
      go_upto_region 7 with (fail)
      have HP := Lib.hid (hkp.setIs lo false (by omega))
      have HB := Lib.hid ((HB.out.trans (hR.mono (by omega))).setCell (p := ⟨ib, lo, none⟩) (by show ib ≤ ib; omega) (.bool false))
      clear k1 f1 hkp hR y2 HX hlt2 hlt3 d1
      generalize W.setCell ⟨ib, lo, none⟩ (.bool false) = w5 at *
      generalize upd (oneT l (takes p) B T lo) lo false = E at *
      have y2 := HP.out.p.1 2 _ rfl
      have f0 := HP.out.p.2
      have q1 : IntKind.i64.wrap ((lo : Int) + 1) = (lo : Int) + 1 := IntWalk.i64_in _ (by omega)
      go_upto_region 8 with (fail)
      have HP : Hid (PS pb ib sb off cap l (w5.setCell ⟨pb, 2, none⟩ (.int .i64 ((lo : Int) + 1))) E (lo + 1) hi) := Lib.hid (HP.out.setLo (lo + 1))
      have HB := Lib.hid (HB.out.setCell (p := ⟨pb, 2, none⟩) (by show ib ≤ pb; omega) (.int .i64 ((lo : Int) + 1)))
      clear y2 f0 q1
      generalize w5.setCell ⟨pb, 2, none⟩ (.int .i64 ((lo : Int) + 1)) = w6 at *
      have y3 := HP.out.p.1 3 _ rfl
      have f0 := HP.out.p.2
      have q1 : IntKind.i64.wrap ((T : Int) - 1 + 1) = (T : Int) := by rw [IntWalk.i64_in _ (by omega)]; omega
      have q2 : IntKind.i64.wrap ((T : Int) - 1) = (T : Int) - 1 := IntWalk.i64_in _ (by omega)
      go_upto_region 9 with (fail)
      have HP := Lib.hid (HP.out.setHi T)
      have HB := Lib.hid (HB.out.setCell (p := ⟨pb, 3, none⟩) (by show ib ≤ pb; omega) (.int .i64 (T : Int)))
      clear y3 f0 q1 q2
      generalize w6.setCell ⟨pb, 3, none⟩ (.int .i64 (T : Int)) = w7 at *
      have HE := Lib.hid HE.out
      go_loopw [] (fun wr => ∃ a : Nat, lo + 1 ≤ a ∧ a ≤ T + 1 ∧ Hid (∀ k, k < a → E k = false) ∧ Hid (PS pb ib sb off cap l wr E a T) ∧ Hid (Below ib w wr)) (fun wr => T + 1 - (cellN wr ⟨pb, 2, none⟩).toNat)
      case atStart => exact ⟨lo + 1, by omega, by omega, Lib.hid HE.out.low, HP, HB⟩
      case round =>
        clear HP HB
        obtain ⟨a, ha1, ha2, HA, HP, HB⟩ := hrel
        have y1 := HP.out.p.1 1 _ rfl
        have y2 := HP.out.p.1 2 _ rfl
        have y3 := HP.out.p.1 3 _ rfl
        by_cases hlt : a ≤ T
        rotate_left
        · have d1 : decide ((a : Int) ≤ (T : Int)) = false := decide_eq_false (by omega)
          have d2 : decide (a ≤ T) = false := decide_eq_false (by omega)
          have HALL : Hid (∀ k, E k = false) := Lib.hid (fun k => by
            by_cases q : k < a
            · exact HA.out k q
            · exact HE.out.high k (by omega))
          go_upto_region 9 with (fail)
          go_quiet (fail)
          have hb := below_drewN (Below.refl wr.heap.size wr) nq
          have HP := Lib.hid (HP.out.below hb)
          have HB := Lib.hid (below_drewN HB.out nq)
          clear y1 y2 y3 hb
          generalize wr.drewN nq = w8 at *
          clear hlt
          go_wp2_with (fail)
          refine wp_loop_rounds 1 ?_
          rw [rounds_succ]
          have y1 := HP.out.p.1 1 _ rfl
          have y2 := HP.out.p.1 2 _ rfl
          have y3 := HP.out.p.1 3 _ rfl
          clear nq
          go_upto_region 11 with (fail)
          go_quiet (fail)
          have hb := below_drewN (Below.refl w8.heap.size w8) nq
          have HP := Lib.hid (HP.out.below hb)
          have HB := Lib.hid (below_drewN HB.out nq)
          clear y1 y2 y3 hb
          generalize w8.drewN nq = w9 at *
          have y1 := HP.out.p.1 1 _ rfl
          have y2 := HP.out.p.1 2 _ rfl
          have y3 := HP.out.p.1 3 _ rfl
          go_wp2_with (fail)
          clear nq
          go_quiet (fail)
          have hb := below_drewN HB.out nq
          go_wp2_with (fail)
          go_ret
          exact one_no HE.out HALL.out hb
        have d1 : decide ((a : Int) ≤ (T : Int)) = true := decide_eq_true (by omega)
        have d2 : decide (a ≤ T) = true := decide_eq_true (by omega)
        have k1 := HP.out.get a (by omega)
        have hl1 : a < l.length + 1 := by omega
        have hl2 : (a : Int) < (l.length : Int) + 1 := by omega
        cases hE : E a with
        | false =>
          rw [hE] at k1
          have HA : Hid (∀ k, k < a + 1 → E k = false) := Lib.hid (fun k hk => by
            by_cases q : k < a
            · exact HA.out k q
            · rw [show k = a by omega]; exact hE)
          have HM0 : Hid (cellN wr ⟨pb, 2, none⟩ = (a : Int)) := Lib.hid (by unfold cellN; rw [y2])
          clear hE
          go_upto_region 9 with (fail)
          go_quiet (fail)
          have hb := below_drewN (Below.refl wr.heap.size wr) nq
          have HP := Lib.hid (HP.out.below hb)
          have HB := Lib.hid (below_drewN HB.out nq)
          clear y1 y2 y3 k1 hb
          generalize wr.drewN nq = w8 at *
          have y2 := HP.out.p.1 2 _ rfl
          have f0 := HP.out.p.2
          have q1 : IntKind.i64.wrap ((a : Int) + 1) = (a : Int) + 1 := IntWalk.i64_in _ (by omega)
          go_wp2_with (fail)
          have HP : Hid (PS pb ib sb off cap l (w8.setCell ⟨pb, 2, none⟩ (.int .i64 ((a : Int) + 1))) E (a + 1) T) := Lib.hid (HP.out.setLo (a + 1))
          have HB := Lib.hid (HB.out.setCell (p := ⟨pb, 2, none⟩) (by show ib ≤ pb; omega) (.int .i64 ((a : Int) + 1)))
          clear y2 f0 q1 d1 d2
          generalize w8.setCell ⟨pb, 2, none⟩ (.int .i64 ((a : Int) + 1)) = w9 at *
          go_roundw
          case rel => exact ⟨a + 1, by omega, by omega, HA, HP, HB⟩
          case measure =>
            have h1 : cellN w9 ⟨pb, 2, none⟩ = ((a + 1 : Nat) : Int) := by unfold cellN; rw [HP.out.p.1 2 _ rfl]
            rw [h1, HM0.out]
            omega
        | true =>
          have HEa := Lib.hid hE
          rw [hE] at k1
          clear hE
          go_upto_region 9 with (fail)
          go_quiet (fail)
          have hb := below_drewN (Below.refl wr.heap.size wr) nq
          have HP := Lib.hid (HP.out.below hb)
          have HB := Lib.hid (below_drewN HB.out nq)
          clear y1 y2 y3 k1 hb
          generalize wr.drewN nq = w8 at *
          clear d1 d2 hl1 hl2
          go_wp2_with (fail)
          clear nq
          go_loopw [] (fun wr => ∃ h : Nat, a ≤ h ∧ h ≤ T ∧ Hid (∀ k, h < k → E k = false) ∧ Hid (PS pb ib sb off cap l wr E a h) ∧ Hid (Below ib w wr)) (fun wr => (cellN wr ⟨pb, 3, none⟩).toNat)
          case atStart => exact ⟨T, hlt, by omega, Lib.hid HE.out.high, HP, HB⟩
          case round =>
            clear HP HB
            obtain ⟨h, hh1, hh2, HH, HP, HB⟩ := hrel
            obtain ⟨wo, rfl⟩ : ∃ z : World, z = wr := ⟨_, rfl⟩
            have d1 : decide ((a : Int) ≤ (h : Int)) = true := decide_eq_true (by omega)
            have d2 : decide (a ≤ h) = true := decide_eq_true (by omega)
            have hl1 : h < l.length + 1 := by omega
            have hl2 : (h : Int) < (l.length : Int) + 1 := by omega
            have y1 := HP.out.p.1 1 _ rfl
            have y2 := HP.out.p.1 2 _ rfl
            have y3 := HP.out.p.1 3 _ rfl
            have k1 := HP.out.get h (by omega)
            cases hE : E h with
            | false =>
              rw [hE] at k1
              have hne : a ≠ h := fun e => by
                have := HEa.out
                rw [e, hE] at this
                cases this
              have HH : Hid (∀ k, h - 1 < k → E k = false) := Lib.hid (fun k hk => by
                by_cases q : h < k
                · exact HH.out k q
                · rw [show k = h by omega]; exact hE)
              have HM0 : Hid (cellN wo ⟨pb, 3, none⟩ = (h : Int)) := Lib.hid (by unfold cellN; rw [y3])
              clear hE
              go_upto_region 11 with (fail)
              go_quiet (fail)
              have hb := below_drewN (Below.refl wo.heap.size wo) nq
              have HP := Lib.hid (HP.out.below hb)
              have HB := Lib.hid (below_drewN HB.out nq)
              clear y1 y2 y3 k1 hb
              generalize wo.drewN nq = w9 at *
              have y3 := HP.out.p.1 3 _ rfl
              have f0 := HP.out.p.2
              obtain ⟨g, rfl⟩ : ∃ g, h = g + 1 := ⟨h - 1, by omega⟩
              have q1 : IntKind.i64.wrap (((g + 1 : Nat) : Int) - 1) = (g : Int) := by rw [IntWalk.i64_in _ (by omega)]; omega
              have q2 : IntKind.i64.wrap ((g : Int) + 1 - 1) = (g : Int) := by rw [IntWalk.i64_in _ (by omega)]; omega
              go_wp2_with (fail)
              have HP : Hid (PS pb ib sb off cap l (w9.setCell ⟨pb, 3, none⟩ (.int .i64 (g : Int))) E a g) := Lib.hid (HP.out.setHi g)
              have HB := Lib.hid (HB.out.setCell (p := ⟨pb, 3, none⟩) (by show ib ≤ pb; omega) (.int .i64 (g : Int)))
              clear y3 f0 q1 q2 d1 d2
              generalize w9.setCell ⟨pb, 3, none⟩ (.int .i64 (g : Int)) = w10 at *
              go_roundw
              case rel => exact ⟨g, by omega, by omega, HH, HP, HB⟩
              case measure =>
                have h1 : cellN w10 ⟨pb, 3, none⟩ = ((g : Nat) : Int) := by unfold cellN; rw [HP.out.p.1 3 _ rfl]
                rw [h1, HM0.out]
                omega
            | true =>
              have HEh := Lib.hid hE
              rw [hE] at k1
              clear hE
              go_upto_region 11 with (fail)
              go_quiet (fail)
              have hb := below_drewN (Below.refl wo.heap.size wo) nq
              have HP := Lib.hid (HP.out.below hb)
              have HB := Lib.hid (below_drewN HB.out nq)
              clear y1 y2 y3 k1 hb
              generalize wo.drewN nq = w9 at *
              have y1 := HP.out.p.1 1 _ rfl
              have y2 := HP.out.p.1 2 _ rfl
              have y3 := HP.out.p.1 3 _ rfl
              go_wp2_with (fail)
              clear nq
              go_quiet (fail)
              have hb := below_drewN HB.out nq
              have hp := HP.out.below (below_drewN (Below.refl w9.heap.size w9) nq)
              go_wp2_with (fail)
              go_ret
              exact one_yes HE.out hT1 hh1 hh2 HEa.out HEh.out HA.out HH.out hp hb
    obtain ⟨m, rfl⟩ : ∃ m, j = m + 1 := ⟨j - 1, by omega⟩
    have e : x = (m : Int) := by omega
    subst e
    clear hx
    have d1 : decide ((lo : Int) ≤ (m : Int)) = true := decide_eq_true (by omega)
    have d2 : decide (lo ≤ m) = true := decide_eq_true (by omega)
    have q1 : IntKind.i64.wrap ((m : Int) + 1) = (m : Int) + 1 := IntWalk.i64_in _ (by omega)
    have q2 : IntKind.i64.wrap ((m : Int) - 1) = (m : Int) - 1 := IntWalk.i64_in _ (by omega)
    have hm1 : m < l.length := by omega
    have hm2 : m < l.length + 1 := by omega
    have hm3 : m + 1 < l.length + 1 := by omega
    have HCF := Lib.hid (sg_get l m hm1)
    have HST := Lib.hid (oneT_step l (takes p) B T m (by omega))
    have HLW := Lib.hid (oneT_low l (takes p) B T (m + 1) m (by omega))
    generalize l.getD m 0 = c at *
    go_upto_region 5 with (fail)
    have HMT := Lib.hid (fun (W : World) (hW : Below wr.heap.size wr W) => matches_any p c Bu (.slice ax p.rs.length cx) W (HS.out W (HB.out.trans (hW.mono (by omega)))) (by have := hW.size; omega) hrl hm)
    cases hbm : B m with
    | true =>
      rw [hbm] at HST
      refine Mono.region_tail 24 (by kernel_rfl) (by kernel_rfl) (by kernel_rfl) (by kernel_rfl) ?_
      simp only [List.take_succ_cons, List.take_zero]
      refine Mono.hgl_val (v := ?vy0) rfl Mono.rr (fun ρ a W hR hd hf => ?hy0) ?_
      case hy0 =>
        have e0 := Mono.init_get hf (t := 0) (by kernel_rfl)
        clear hd hf
        (go_simp; try with_reducible rfl)
      refine Mono.hgl_val (v := ?vy1) rfl Mono.rr (fun ρ a W hR hd hf => ?hy1) ?_
      case hy1 =>
        have e27 := Mono.dep_val hd hf (t := 27) (k := 0) (by kernel_rfl) rfl
        clear hd hf
        (go_simp; try with_reducible rfl)
      refine Mono.hgl_val (v := ?vy2) rfl Mono.rr (fun ρ a W hR hd hf => ?hy2) ?_
      case hy2 =>
        have e28 := Mono.dep_val hd hf (t := 28) (k := 1) (by kernel_rfl) rfl
        clear hd hf
        (go_simp; try with_reducible rfl)
      refine Mono.hgl_val (v := ?vy3) rfl Mono.rr (fun ρ a W hR hd hf => ?hy3) ?_
      case hy3 =>
        have e29 := Mono.dep_val hd hf (t := 29) (k := 2) (by kernel_rfl) rfl
        have hkp := (HP.out.below hR)
        have hk := hkp.p.1 1 _ rfl
        clear hd hf
        (go_simp; try with_reducible rfl)
      refine Mono.hgl_val (v := ?vy4) rfl Mono.rr (fun ρ a W hR hd hf => ?hy4) ?_
      case hy4 =>
        have e6 := Mono.init_get hf (t := 6) (by kernel_rfl)
        clear hd hf
        (go_simp; try with_reducible rfl)
      refine Mono.hgl_val (v := ?vy5) rfl Mono.rr (fun ρ a W hR hd hf => ?hy5) ?_
      case hy5 =>
        have e31 := Mono.dep_val hd hf (t := 31) (k := 4) (by kernel_rfl) rfl
        have hq := q1
        clear hd hf
        (go_simp; try with_reducible rfl)
      refine Mono.hgl_val (v := ?vy6) rfl Mono.rr (fun ρ a W hR hd hf => ?hy6) ?_
      case hy6 =>
        have e0 := Mono.init_get hf (t := 0) (by kernel_rfl)
        clear hd hf
        (go_simp; try with_reducible rfl)
      refine Mono.hgl_val (v := ?vy7) rfl Mono.rr (fun ρ a W hR hd hf => ?hy7) ?_
      case hy7 =>
        have e33 := Mono.dep_val hd hf (t := 33) (k := 6) (by kernel_rfl) rfl
        clear hd hf
        (go_simp; try with_reducible rfl)
      refine Mono.hgl_val (v := ?vy8) rfl Mono.rr (fun ρ a W hR hd hf => ?hy8) ?_
      case hy8 =>
        have e34 := Mono.dep_val hd hf (t := 34) (k := 7) (by kernel_rfl) rfl
        clear hd hf
        (go_simp; try with_reducible rfl)
      refine Mono.hgl_val (v := ?vy9) rfl Mono.rr (fun ρ a W hR hd hf => ?hy9) ?_
      case hy9 =>
        have e35 := Mono.dep_val hd hf (t := 35) (k := 8) (by kernel_rfl) rfl
        have hkp := (HP.out.below hR)
        have hk := hkp.p.1 1 _ rfl
        clear hd hf
        (go_simp; try with_reducible rfl)
      refine Mono.hgl_val (v := ?vy10) rfl Mono.rr (fun ρ a W hR hd hf => ?hy10) ?_
      case hy10 =>
        have e6 := Mono.init_get hf (t := 6) (by kernel_rfl)
        clear hd hf
        (go_simp; try with_reducible rfl)
      refine Mono.hgl_val (v := ?vy11) rfl Mono.rr (fun ρ a W hR hd hf => ?hy11) ?_
      case hy11 =>
        have e36 := Mono.dep_val hd hf (t := 36) (k := 9) (by kernel_rfl) rfl
        have e37 := Mono.dep_val hd hf (t := 37) (k := 10) (by kernel_rfl) rfl
        have hq : (m : Int) < (l.length : Int) + 1 := by omega
        clear hd hf
        (go_simp; try with_reducible rfl)
      refine Mono.hgl_val (v := ?vy12) rfl Mono.rr (fun ρ a W hR hd hf => ?hy12) ?_
      case hy12 =>
        have e38 := Mono.dep_val hd hf (t := 38) (k := 11) (by kernel_rfl) rfl
        have hkp := (HP.out.below hR)
        have hk := hkp.get m (by omega)
        rw [HLW.out, hbm] at hk
        clear hd hf
        (go_simp; try with_reducible rfl)
      refine Mono.hgl_val (v := ?vy13) rfl Mono.rr (fun ρ a W hR hd hf => ?hy13) ?_
      case hy13 =>
        have e39 := Mono.dep_val hd hf (t := 39) (k := 12) (by kernel_rfl) rfl
        clear hd hf
        (go_simp; try with_reducible rfl)
      refine Mono.hgl_valg (v := ?vy14) rfl Mono.rr (fun ρ W hd => Mono.guard_val hd (t := 40) (k := 13) (by kernel_rfl) rfl) (fun ρ a W hR hd hf => ?hy14) ?_
      case hy14 =>
        have e3 := Mono.init_get hf (t := 3) (by kernel_rfl)
        have hkx := (HX.out.below hR hzr)
        have hk0 := hkx.1 0 _ rfl
        have hk1 := hkx.1 1 _ rfl
        have hk2 := hkx.1 2 _ rfl
        have hk3 := hkx.1 3 _ rfl
        clear hd hf
        (go_simp; try with_reducible rfl)
      refine Mono.hgl_valg (v := ?vy15) rfl Mono.rr (fun ρ W hd => Mono.guard_val hd (t := 40) (k := 13) (by kernel_rfl) rfl) (fun ρ a W hR hd hf => ?hy15) ?_
      case hy15 =>
        have e0 := Mono.init_get hf (t := 0) (by kernel_rfl)
        clear hd hf
        (go_simp; try with_reducible rfl)
      refine Mono.hgl_valg (v := ?vy16) rfl Mono.rr (fun ρ W hd => Mono.guard_val hd (t := 40) (k := 13) (by kernel_rfl) rfl) (fun ρ a W hR hd hf => ?hy16) ?_
      case hy16 =>
        have e42 := Mono.dep_val hd hf (t := 42) (k := 15) (by kernel_rfl) rfl
        clear hd hf
        (go_simp; try with_reducible rfl)
      refine Mono.hgl_valg (v := ?vy17) rfl Mono.rr (fun ρ W hd => Mono.guard_val hd (t := 40) (k := 13) (by kernel_rfl) rfl) (fun ρ a W hR hd hf => ?hy17) ?_
      case hy17 =>
        have e43 := Mono.dep_val hd hf (t := 43) (k := 16) (by kernel_rfl) rfl
        clear hd hf
        (go_simp; try with_reducible rfl)
      refine Mono.hgl_valg (v := ?vy18) rfl Mono.rr (fun ρ W hd => Mono.guard_val hd (t := 40) (k := 13) (by kernel_rfl) rfl) (fun ρ a W hR hd hf => ?hy18) ?_
      case hy18 =>
        have e44 := Mono.dep_val hd hf (t := 44) (k := 17) (by kernel_rfl) rfl
        have hkp := (HP.out.below hR)
        have hk := hkp.p.1 0 _ rfl
        clear hd hf
        (go_simp; try with_reducible rfl)
      refine Mono.hgl_valg (v := ?vy19) rfl Mono.rr (fun ρ W hd => Mono.guard_val hd (t := 40) (k := 13) (by kernel_rfl) rfl) (fun ρ a W hR hd hf => ?hy19) ?_
      case hy19 =>
        have e6 := Mono.init_get hf (t := 6) (by kernel_rfl)
        clear hd hf
        (go_simp; try with_reducible rfl)
      refine Mono.hgl_valg (v := ?vy20) rfl Mono.rr (fun ρ W hd => Mono.guard_val hd (t := 40) (k := 13) (by kernel_rfl) rfl) (fun ρ a W hR hd hf => ?hy20) ?_
      case hy20 =>
        have e45 := Mono.dep_val hd hf (t := 45) (k := 18) (by kernel_rfl) rfl
        have e46 := Mono.dep_val hd hf (t := 46) (k := 19) (by kernel_rfl) rfl
        have hq : (m : Int) < (l.length : Int) := by omega
        clear hd hf
        (go_simp; try with_reducible rfl)
      refine Mono.hgl_valg (v := ?vy21) rfl Mono.rr (fun ρ W hd => Mono.guard_val hd (t := 40) (k := 13) (by kernel_rfl) rfl) (fun ρ a W hR hd hf => ?hy21) ?_
      case hy21 =>
        have e47 := Mono.dep_val hd hf (t := 47) (k := 20) (by kernel_rfl) rfl
        have hkp := (HP.out.below hR)
        have hk := hkp.s m _ HCF.out
        clear hd hf
        (go_simp; try with_reducible rfl)
      refine Mono.hgl_callg (fun x _ => x = .bool (takes p c)) rfl Mono.rr (fun _ _ _ h _ => h) (fun ρ W hd => Mono.guard_val hd (t := 40) (k := 13) (by kernel_rfl) rfl) (fun ρ a W hR hd hf => ?hy22) ?_
      case hy22 =>
        have e41 := Mono.dep_val hd hf (t := 41) (k := 14) (by kernel_rfl) rfl
        have e48 := Mono.dep_val hd hf (t := 48) (k := 21) (by kernel_rfl) rfl
        clear hd hf
        refine ⟨_, _, by go_simp; first | rfl | exact ⟨rfl, rfl⟩, ?_⟩
        exact (HMT.out W hR).mono (fun e W' ⟨he, hb⟩ => ⟨_, he, hb, rfl⟩)
      refine Mono.hgl_val (v := ?vy23) rfl Mono.rr (fun ρ a W hR hd hf => ?hy23) ?_
      case hy23 =>
        have e40 := Mono.dep_val hd hf (t := 40) (k := 13) (by kernel_rfl) rfl
        have e49 := Mono.dep_val hd hf (t := 49) (k := 22) (by kernel_rfl) rfl
        clear hd hf
        (go_simp; try with_reducible rfl)
      refine Mono.hgl_done rfl (by decide) (fun ρ W hR ht => ?_)
      simp only [List.take_succ_cons, List.take_zero, List.drop_succ_cons, List.drop_zero]
      obtain ⟨dy23, dy22, dy21, dy20, dy19, dy18, dy17, dy16, dy15, dy14, dy13, dy12, dy11, dy10, dy9, dy8, dy7, dy6, dy5, dy4, dy3, dy2, dy1, dy0, _⟩ := ht
      simp only [List.length_cons, List.length_nil, Nat.reduceAdd] at dy0 dy1 dy2 dy3 dy4 dy5 dy6 dy7 dy8 dy9 dy10 dy11 dy12 dy13 dy14 dy15 dy16 dy17 dy18 dy19 dy20 dy21 dy22 dy23
      simp only [Mono.putAll, Nat.reduceAdd, dy0, dy1, dy2, dy3, dy4, dy5, dy6, dy7, dy8, dy9, dy10, dy11, dy12, dy13, dy14, dy15, dy16, dy17, dy18, dy19, dy20, dy21, dy22, dy23, Act.put, List.setIfInBounds_toArray, List.set_cons_zero, List.set_cons_succ]
      clear dy0 dy1 dy2 dy3 dy4 dy5 dy6 dy7 dy8 dy9 dy10 dy11 dy12 dy13 dy14 dy15 dy16 dy17 dy18 dy19 dy20 dy21 dy22 dy23
      have hkp := HP.out.below hR
      have y1 := hkp.p.1 1 _ rfl
      have k1 := hkp.get (m + 1) (by omega)
      have f1 := hkp.i.2
      go_upto_region 4 with (fail)
      have HP : Hid (PS pb ib sb off cap l (W.setCell ⟨ib, m + 1, none⟩ (.bool (takes p c))) (oneT l (takes p) B T m) lo hi) := Lib.hid (by
        have h9 := hkp.setIs (m + 1) (takes p c) (by omega)
        have h8 := HST.out
        simp only [Bool.true_and, Bool.false_and] at h8
        rw [h8] at h9
        exact h9)
      have HX := Lib.hid ((HX.out.below hR hzr).other (c := ib) (by omega) (m + 1) (.bool (takes p c)))
      have HB := Lib.hid ((HB.out.trans (hR.mono (by omega))).setCell (p := ⟨ib, m + 1, none⟩) (by show ib ≤ ib; omega) (.bool (takes p c)))
      have hzr : bx < (W.setCell ⟨ib, m + 1, none⟩ (.bool (takes p c))).heap.size := by have := hR.size; simp [World.setCell]; omega
      clear y1 k1 f1 hkp hR
      generalize W.setCell ⟨ib, m + 1, none⟩ (.bool (takes p c)) = w5 at *
      go_wp2_with (fail)
      go_roundw
      case rel => exact ⟨_, m, rfl, rfl, by omega, by omega, hzr, HP, HX, HB⟩
      case measure => simp [intOf] <;> omega
    | false =>
      rw [hbm] at HST
      refine Mono.region_tail 24 (by kernel_rfl) (by kernel_rfl) (by kernel_rfl) (by kernel_rfl) ?_
      simp only [List.take_succ_cons, List.take_zero]
      refine Mono.hgl_val (v := ?vn0) rfl Mono.rr (fun ρ a W hR hd hf => ?hn0) ?_
      case hn0 =>
        have e0 := Mono.init_get hf (t := 0) (by kernel_rfl)
        clear hd hf
        (go_simp; try with_reducible rfl)
      refine Mono.hgl_val (v := ?vn1) rfl Mono.rr (fun ρ a W hR hd hf => ?hn1) ?_
      case hn1 =>
        have e27 := Mono.dep_val hd hf (t := 27) (k := 0) (by kernel_rfl) rfl
        clear hd hf
        (go_simp; try with_reducible rfl)
      refine Mono.hgl_val (v := ?vn2) rfl Mono.rr (fun ρ a W hR hd hf => ?hn2) ?_
      case hn2 =>
        have e28 := Mono.dep_val hd hf (t := 28) (k := 1) (by kernel_rfl) rfl
        clear hd hf
        (go_simp; try with_reducible rfl)
      refine Mono.hgl_val (v := ?vn3) rfl Mono.rr (fun ρ a W hR hd hf => ?hn3) ?_
      case hn3 =>
        have e29 := Mono.dep_val hd hf (t := 29) (k := 2) (by kernel_rfl) rfl
        have hkp := (HP.out.below hR)
        have hk := hkp.p.1 1 _ rfl
        clear hd hf
        (go_simp; try with_reducible rfl)
      refine Mono.hgl_val (v := ?vn4) rfl Mono.rr (fun ρ a W hR hd hf => ?hn4) ?_
      case hn4 =>
        have e6 := Mono.init_get hf (t := 6) (by kernel_rfl)
        clear hd hf
        (go_simp; try with_reducible rfl)
      refine Mono.hgl_val (v := ?vn5) rfl Mono.rr (fun ρ a W hR hd hf => ?hn5) ?_
      case hn5 =>
        have e31 := Mono.dep_val hd hf (t := 31) (k := 4) (by kernel_rfl) rfl
        have hq := q1
        clear hd hf
        (go_simp; try with_reducible rfl)
      refine Mono.hgl_val (v := ?vn6) rfl Mono.rr (fun ρ a W hR hd hf => ?hn6) ?_
      case hn6 =>
        have e0 := Mono.init_get hf (t := 0) (by kernel_rfl)
        clear hd hf
        (go_simp; try with_reducible rfl)
      refine Mono.hgl_val (v := ?vn7) rfl Mono.rr (fun ρ a W hR hd hf => ?hn7) ?_
      case hn7 =>
        have e33 := Mono.dep_val hd hf (t := 33) (k := 6) (by kernel_rfl) rfl
        clear hd hf
        (go_simp; try with_reducible rfl)
      refine Mono.hgl_val (v := ?vn8) rfl Mono.rr (fun ρ a W hR hd hf => ?hn8) ?_
      case hn8 =>
        have e34 := Mono.dep_val hd hf (t := 34) (k := 7) (by kernel_rfl) rfl
        clear hd hf
        (go_simp; try with_reducible rfl)
      refine Mono.hgl_val (v := ?vn9) rfl Mono.rr (fun ρ a W hR hd hf => ?hn9) ?_
      case hn9 =>
        have e35 := Mono.dep_val hd hf (t := 35) (k := 8) (by kernel_rfl) rfl
        have hkp := (HP.out.below hR)
        have hk := hkp.p.1 1 _ rfl
        clear hd hf
        (go_simp; try with_reducible rfl)
      refine Mono.hgl_val (v := ?vn10) rfl Mono.rr (fun ρ a W hR hd hf => ?hn10) ?_
      case hn10 =>
        have e6 := Mono.init_get hf (t := 6) (by kernel_rfl)
        clear hd hf
        (go_simp; try with_reducible rfl)
      refine Mono.hgl_val (v := ?vn11) rfl Mono.rr (fun ρ a W hR hd hf => ?hn11) ?_
      case hn11 =>
        have e36 := Mono.dep_val hd hf (t := 36) (k := 9) (by kernel_rfl) rfl
        have e37 := Mono.dep_val hd hf (t := 37) (k := 10) (by kernel_rfl) rfl
        have hq : (m : Int) < (l.length : Int) + 1 := by omega
        clear hd hf
        (go_simp; try with_reducible rfl)
      refine Mono.hgl_val (v := ?vn12) rfl Mono.rr (fun ρ a W hR hd hf => ?hn12) ?_
      case hn12 =>
        have e38 := Mono.dep_val hd hf (t := 38) (k := 11) (by kernel_rfl) rfl
        have hkp := (HP.out.below hR)
        have hk := hkp.get m (by omega)
        rw [HLW.out, hbm] at hk
        clear hd hf
        (go_simp; try with_reducible rfl)
      refine Mono.hgl_val (v := ?vn13) rfl Mono.rr (fun ρ a W hR hd hf => ?hn13) ?_
      case hn13 =>
        have e39 := Mono.dep_val hd hf (t := 39) (k := 12) (by kernel_rfl) rfl
        clear hd hf
        (go_simp; try with_reducible rfl)
      refine Mono.hgl_skip rfl (by decide) (fun ρ W hd => Mono.guard_val hd (t := 40) (k := 13) (by kernel_rfl) rfl) ?_
      refine Mono.hgl_skip rfl (by decide) (fun ρ W hd => Mono.guard_val hd (t := 40) (k := 13) (by kernel_rfl) rfl) ?_
      refine Mono.hgl_skip rfl (by decide) (fun ρ W hd => Mono.guard_val hd (t := 40) (k := 13) (by kernel_rfl) rfl) ?_
      refine Mono.hgl_skip rfl (by decide) (fun ρ W hd => Mono.guard_val hd (t := 40) (k := 13) (by kernel_rfl) rfl) ?_
      refine Mono.hgl_skip rfl (by decide) (fun ρ W hd => Mono.guard_val hd (t := 40) (k := 13) (by kernel_rfl) rfl) ?_
      refine Mono.hgl_skip rfl (by decide) (fun ρ W hd => Mono.guard_val hd (t := 40) (k := 13) (by kernel_rfl) rfl) ?_
      refine Mono.hgl_skip rfl (by decide) (fun ρ W hd => Mono.guard_val hd (t := 40) (k := 13) (by kernel_rfl) rfl) ?_
      refine Mono.hgl_skip rfl (by decide) (fun ρ W hd => Mono.guard_val hd (t := 40) (k := 13) (by kernel_rfl) rfl) ?_
      refine Mono.hgl_skip rfl (by decide) (fun ρ W hd => Mono.guard_val hd (t := 40) (k := 13) (by kernel_rfl) rfl) ?_
      refine Mono.hgl_val (v := ?vn23) rfl Mono.rr (fun ρ a W hR hd hf => ?hn23) ?_
      case hn23 =>
        have e40 := Mono.dep_val hd hf (t := 40) (k := 13) (by kernel_rfl) rfl
        have e49 := Mono.dep_val hd hf (t := 49) (k := 22) (by kernel_rfl) rfl
        clear hd hf
        (go_simp; try with_reducible rfl)
      refine Mono.hgl_done rfl (by decide) (fun ρ W hR ht => ?_)
      simp only [List.take_succ_cons, List.take_zero, List.drop_succ_cons, List.drop_zero]
      obtain ⟨dn23, dn22, dn21, dn20, dn19, dn18, dn17, dn16, dn15, dn14, dn13, dn12, dn11, dn10, dn9, dn8, dn7, dn6, dn5, dn4, dn3, dn2, dn1, dn0, _⟩ := ht
      simp only [List.length_cons, List.length_nil, Nat.reduceAdd] at dn0 dn1 dn2 dn3 dn4 dn5 dn6 dn7 dn8 dn9 dn10 dn11 dn12 dn13 dn14 dn15 dn16 dn17 dn18 dn19 dn20 dn21 dn22 dn23
      simp only [Mono.putAll, Nat.reduceAdd, dn0, dn1, dn2, dn3, dn4, dn5, dn6, dn7, dn8, dn9, dn10, dn11, dn12, dn13, dn14, dn15, dn16, dn17, dn18, dn19, dn20, dn21, dn22, dn23, Act.put, List.setIfInBounds_toArray, List.set_cons_zero, List.set_cons_succ]
      clear dn0 dn1 dn2 dn3 dn4 dn5 dn6 dn7 dn8 dn9 dn10 dn11 dn12 dn13 dn14 dn15 dn16 dn17 dn18 dn19 dn20 dn21 dn22 dn23
      have hkp := HP.out.below hR
      have y1 := hkp.p.1 1 _ rfl
      have k1 := hkp.get (m + 1) (by omega)
      have f1 := hkp.i.2
      go_upto_region 4 with (fail)
      have HP : Hid (PS pb ib sb off cap l (W.setCell ⟨ib, m + 1, none⟩ (.bool false)) (oneT l (takes p) B T m) lo hi) := Lib.hid (by
        have h9 := hkp.setIs (m + 1) false (by omega)
        have h8 := HST.out
        simp only [Bool.true_and, Bool.false_and] at h8
        rw [h8] at h9
        exact h9)
      have HX := Lib.hid ((HX.out.below hR hzr).other (c := ib) (by omega) (m + 1) (.bool false))
      have HB := Lib.hid ((HB.out.trans (hR.mono (by omega))).setCell (p := ⟨ib, m + 1, none⟩) (by show ib ≤ ib; omega) (.bool false))
      have hzr : bx < (W.setCell ⟨ib, m + 1, none⟩ (.bool false)).heap.size := by have := hR.size; simp [World.setCell]; omega
      clear y1 k1 f1 hkp hR
      generalize W.setCell ⟨ib, m + 1, none⟩ (.bool false) = w5 at *
      go_wp2_with (fail)
      go_roundw
      case rel => exact ⟨_, m, rfl, rfl, by omega, by omega, hzr, HP, HX, HB⟩
      case measure => simp [intOf] <;> omega
end Go.Proofs.YtlmdpmfahfgjkaaDoor
