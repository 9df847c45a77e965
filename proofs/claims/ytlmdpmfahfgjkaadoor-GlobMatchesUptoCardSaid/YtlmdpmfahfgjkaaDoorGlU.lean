/- The page's Match. -/
import Derived.Test.YtlmdpmfahfgjkaaDoorGlT
namespace Go.Proofs.YtlmdpmfahfgjkaaDoor
set_option maxRecDepth 100000
set_option linter.unusedVariables false
set_option linter.unusedSimpArgs false
open Go.RowKit
theorem bcells_congr {n : Nat} {A B : Nat → Bool} (h : ∀ k, k ≤ n → A k = B k) : bcells n A = bcells n B := by
  unfold bcells
  refine List.map_congr_left fun k hk => ?_
  rw [h k (by have := List.mem_range.1 hk; omega)]
theorem own_b {w : World} {b n : Nat} {B : Nat → Bool} (h : Own w b (bcells n B)) (k : Nat) (hk : k ≤ n) : w.cell? ⟨b, k, none⟩ = some (.bool (B k)) := h.1 k _ (bcells_get _ _ _ hk)
theorem own_bset {w : World} {b n : Nat} {B : Nat → Bool} (h : Own w b (bcells n B)) (k : Nat) (v : Bool) (hk : k ≤ n) : Own (w.setCell ⟨b, k, none⟩ (.bool v)) b (bcells n (upd B k v)) := by
  rw [← bcells_set]
  exact h.set k _ (by simp [bcells]; omega)
/-- The rows. -/
def rowM (ps : List PartV) (s : List Int) (j : Nat) : Nat → Bool := fun k => M (ps.drop j) (s.drop k)
/-- The next row from k on. -/
def nextM (ps : List PartV) (s : List Int) (j k : Nat) : Nat → Bool := fun x => if k ≤ x then rowM ps s j x else false
theorem row_start (ps : List PartV) (s : List Int) : bcells s.length (upd (fun _ => false) s.length true) = bcells s.length (rowM ps s ps.length) := by
  refine bcells_congr fun k hk => ?_
  unfold upd rowM
  rw [List.drop_length]
  by_cases e : k = s.length
  · subst e
    rw [if_pos rfl, List.drop_length]; rfl
  · rw [if_neg e, drop_cons s k (by omega)]; rfl
theorem next_start (ps : List PartV) (s : List Int) (j : Nat) : bcells s.length (fun _ => false) = bcells s.length (nextM ps s j (s.length + 1)) := by
  refine bcells_congr fun k hk => ?_
  unfold nextM
  rw [if_neg (by omega)]
theorem next_end (ps : List PartV) (s : List Int) (j : Nat) : bcells s.length (nextM ps s j 0) = bcells s.length (rowM ps s j) := by
  refine bcells_congr fun k hk => ?_
  unfold nextM
  rw [if_pos (Nat.zero_le _)]
theorem next_step (ps : List PartV) (s : List Int) (j k : Nat) (v : Bool) (h : v = rowM ps s j k) : upd (nextM ps s j (k + 1)) k v = nextM ps s j k := by
  funext x
  unfold upd nextM
  by_cases e : x = k
  · subst e
    rw [if_pos rfl, if_pos (Nat.le_refl _), h]
  · rw [if_neg e]
    by_cases c : k ≤ x
    · rw [if_pos c, if_pos (by omega)]
    · rw [if_neg c, if_neg (by omega)]
theorem row_many (ps : List PartV) (s : List Int) (j k : Nat) (p : PartV) (hd : ps.drop j = p :: ps.drop (j + 1)) (hm : many p = true) (hk : k < s.length) : rowM ps s j k = (rowM ps s (j + 1) k || (takes p (s.getD k 0) && rowM ps s j (k + 1))) := by
  unfold rowM
  rw [hd, M, if_pos hm, drop_cons s k hk, star]
theorem row_many_end (ps : List PartV) (s : List Int) (j : Nat) (p : PartV) (hd : ps.drop j = p :: ps.drop (j + 1)) (hm : many p = true) : rowM ps s j s.length = rowM ps s (j + 1) s.length := by
  unfold rowM
  rw [hd, M, if_pos hm, List.drop_length, star]
theorem row_one (ps : List PartV) (s : List Int) (j k : Nat) (p : PartV) (hd : ps.drop j = p :: ps.drop (j + 1)) (hm : many p = false) (hk : k < s.length) : rowM ps s j k = (takes p (s.getD k 0) && rowM ps s (j + 1) (k + 1)) := by
  unfold rowM
  rw [hd, M, if_neg (by rw [hm]; simp), drop_cons s k hk, single]
theorem row_one_end (ps : List PartV) (s : List Int) (j : Nat) (p : PartV) (hd : ps.drop j = p :: ps.drop (j + 1)) (hm : many p = false) : rowM ps s j s.length = false := by
  unfold rowM
  rw [hd, M, if_neg (by rw [hm]; simp), List.drop_length, single]
theorem sl_cells {w : World} {B size n cap : Nat} {a : Option Addr} {cs : List Value} (h : Sl w B size (.slice a n cap) n cs) (hn : 0 < n) : ∃ b off, a = some ⟨b, off, none⟩ ∧ ∀ j u, cs[j]? = some u → w.cell? ⟨b, off + j, none⟩ = some u := by
  obtain ⟨b, off, cap', he, _, _, hk⟩ := h.pos hn
  injection he with he1 he2 he3
  exact ⟨b, off, he1, hk⟩
theorem sl_same {w : World} {B size n cap b off : Nat} {cs : List Value} (h : Sl w B size (.slice (some ⟨b, off, none⟩) n cap) n cs) (hn : 0 < n) : ∀ j u, cs[j]? = some u → w.cell? ⟨b, off + j, none⟩ = some u := by
  obtain ⟨b', off', he, hk⟩ := sl_cells h hn
  injection he with he
  injection he with h1 h2
  subst h1 h2
  exact hk
theorem next_at (ps : List PartV) (s : List Int) (j k x : Nat) (h : k ≤ x) : nextM ps s j k x = rowM ps s j x := by unfold nextM; rw [if_pos h]
set_option maxHeartbeats 16000000 in
theorem refMatch_any (ps : List PartV) (v sv : Value) (B B' : Nat) (s : List Int) (w : World) (hP : Pat .i64 w B v ps) (hB : B ≤ w.heap.size) (hS : Sl w B' 1 sv s.length (icells s)) (hB' : B' ≤ w.heap.size) (hn : ps.length ≤ 2000000) (hr : ∀ p ∈ ps, p.rs.length ≤ 2000000) (hl : s.length ≤ 2000000) :
    Calls Tryd.prog 14 #[v, sv] w fun e w' => e = .returned (.bool (M ps s)) ∧ Below w.heap.size w w' := by
  obtain ⟨av, cv, rfl, hcv⟩ := pat_form hP
  obtain ⟨vs, g1, g2, g3⟩ := hP
  obtain ⟨asv, csv, rfl, hcs⟩ := hS.form
  have HG1 := Lib.hid g1
  have HG2 := Lib.hid (fun (W : World) (hW : Below w.heap.size w W) j u p hu hp => (g2 j u p hu hp).below (hW.mono hB))
  have HG3 := Lib.hid (fun (W : World) (hW : Below w.heap.size w W) => g3.below (hW.mono hB))
  have HSl := Lib.hid (fun (W : World) (hW : Below w.heap.size w W) => hS.below (hW.mono hB'))
  have HR := Lib.hid hr
  have hmk := hmkB s.length w hl
  have HI := Lib.hid (Own.new_at w (bcells s.length (fun _ => false)) 4 w.heap.size rfl)
  have HB := Lib.hid ((Below.refl w.heap.size w).alloc (Nat.le_refl _) (.cells (bcells s.length (fun _ => false)).toArray 4))
  have hz1 : w.heap.size + 1 = (w.alloc (.cells (bcells s.length (fun _ => false)).toArray 4)).heap.size := by simp
  have q1 : IntKind.i64.wrap (((s.length : Nat) : Int) + 1) = ((s.length : Nat) : Int) + 1 := IntWalk.i64_in _ (by omega)
  have q2 : IntKind.i64.wrap (((ps.length : Nat) : Int) - 1) = ((ps.length : Nat) : Int) - 1 := IntWalk.i64_in _ (by omega)
  clear g1 g2 g3 hS hr
  go_enter Tryd.func14, Tryd.ntmps14
  go_upto_region 2 with (fail)
  generalize w.alloc (.cells (bcells s.length (fun _ => false)).toArray 4) = w1 at *
  obtain ⟨rb, hrb⟩ : ∃ z, z = w.heap.size := ⟨_, rfl⟩
  rw [← hrb] at HI
  have HRB := Lib.hid hrb
  simp only [← hrb]
  clear hmk
  have k0 := own_b HI.out s.length (Nat.le_refl _)
  have f0 := HI.out.2
  have hq : s.length < s.length + 1 := by omega
  have hq2 : (s.length : Int) < (s.length : Int) + 1 := by omega
  have hrb1 : w.heap.size ≤ rb ∧ rb < w1.heap.size := by omega
  clear hrb
  go_upto_region 3 with (fail)
  have HI : Hid (Own (w1.setCell ⟨rb, s.length, none⟩ (.bool true)) rb (bcells s.length (rowM ps s ps.length))) := Lib.hid (by
    have := own_bset HI.out s.length true (Nat.le_refl _)
    rw [row_start ps s] at this
    exact this)
  have HB := Lib.hid (HB.out.setCell (p := ⟨rb, s.length, none⟩) hrb1.1 (.bool true))
  have hrb2 : rb < (w1.setCell ⟨rb, s.length, none⟩ (.bool true)).heap.size := by simp [World.setCell]; omega
  have hrb3 := hrb1.1
  clear k0 f0 hq hq2 hrb1 hz1
  generalize w1.setCell ⟨rb, s.length, none⟩ (.bool true) = w2 at *
  go_wp2_with (fail)
  clear q2
  go_loopw [5, 6, 7, 8, 9] (fun rv i _ _ _ wr => ∃ (x : Int) (j b : Nat), rv = .slice (some ⟨b, 0, none⟩) (s.length + 1) (s.length + 1) ∧ i = .int .i64 x ∧ x = (j : Int) - 1 ∧ j ≤ ps.length ∧ w.heap.size ≤ b ∧ b < wr.heap.size ∧ Hid (Own wr b (bcells s.length (rowM ps s j))) ∧ Hid (Below w.heap.size w wr)) (fun _ i _ _ _ _ => (intOf i + 1).toNat)
  case atStart => exact ⟨_, ps.length, rb, rfl, rfl, rfl, Nat.le_refl _, hrb3, hrb2, HI, HB⟩
  case round =>
    clear HI HB hrb2 hrb3 HRB
    obtain ⟨x, j, b, rfl, rfl, hx, hj, hb1, hb2, HI, HB⟩ := hrel
    obtain ⟨wo, rfl⟩ : ∃ z : World, z = wr := ⟨_, rfl⟩
    by_cases hlt : 0 < j
    rotate_left
    · have d1 : decide ((0 : Int) ≤ x) = false := decide_eq_false (by omega)
      have e : j = 0 := by omega
      subst e
      have k0 := own_b HI.out 0 (Nat.zero_le _)
      have hq : 0 < s.length + 1 := by omega
      have hq2 : (0 : Int) < (s.length : Int) + 1 := by omega
      have HM : Hid (rowM ps s 0 0 = M ps s) := Lib.hid rfl
      rw [HM.out] at k0
      clear hx hlt
      go_wp2_with (fail)
      go_ret
      exact ⟨by rfl, HB.out⟩
    obtain ⟨m, rfl⟩ : ∃ m, j = m + 1 := ⟨j - 1, by omega⟩
    have e : x = (m : Int) := by omega
    subst e
    clear hx hlt
    have d1 : decide ((0 : Int) ≤ (m : Int)) = true := decide_eq_true (by omega)
    have q3 : IntKind.i64.wrap ((m : Int) - 1) = (m : Int) - 1 := IntWalk.i64_in _ (by omega)
    have hmk := hmkB s.length wo hl
    have hA := (Below.refl wo.heap.size wo).alloc (Nat.le_refl _) (.cells (bcells s.length (fun _ => false)).toArray 4)
    have HNX : Hid (Own (wo.alloc (.cells (bcells s.length (fun _ => false)).toArray 4)) wo.heap.size (bcells s.length (nextM ps s m (s.length + 1)))) := Lib.hid (by
      rw [← next_start ps s m]
      exact Own.new_at wo _ 4 wo.heap.size rfl)
    have HI := Lib.hid (HI.out.below hA hb2)
    have hzo : w.heap.size ≤ wo.heap.size := HB.out.size
    have HB := Lib.hid (HB.out.trans (hA.mono hzo))
    have hz2 : wo.heap.size + 1 = (wo.alloc (.cells (bcells s.length (fun _ => false)).toArray 4)).heap.size := by simp
    go_upto_region 7 with (fail)
    clear hmk hA
    generalize wo.alloc (.cells (bcells s.length (fun _ => false)).toArray 4) = w5 at *
    generalize wo.heap.size = nb at *
    obtain ⟨p, hp⟩ : ∃ p, ps[m]? = some p := ⟨_, List.getElem?_eq_getElem (by omega)⟩
    have hdrop : ps.drop m = p :: ps.drop (m + 1) := by
      rw [List.drop_eq_getElem_cons (by omega)]
      congr 1
      have := (List.getElem?_eq_some_iff.1 hp).2
      exact this
    have HD := Lib.hid hdrop
    have hprl : p.rs.length ≤ 2000000 := HR.out p (List.mem_of_getElem? hp)
    have hps0 : 0 < ps.length := by omega
    obtain ⟨ba, off, rfl, _⟩ := sl_cells (HG3.out w5 HB.out) hps0
    obtain ⟨u, gu, c0, c1, c2, c3⟩ := pcells_get .i64 vs ps m p HG1.out hp
    have HK0 : Hid (∀ W, Below w.heap.size w W → W.cell? ⟨ba, off + m * 4, none⟩ = some (.int .i64 p.kind)) := Lib.hid (fun W hW => sl_same (HG3.out W hW) hps0 _ _ c0)
    have HK1 : Hid (∀ W, Below w.heap.size w W → W.cell? ⟨ba, off + m * 4 + 1, none⟩ = some (.int .i64 p.sign)) := Lib.hid (fun W hW => by rw [Nat.add_assoc]; exact sl_same (HG3.out W hW) hps0 _ _ c1)
    have HK2 : Hid (∀ W, Below w.heap.size w W → W.cell? ⟨ba, off + m * 4 + 2, none⟩ = some u) := Lib.hid (fun W hW => by rw [Nat.add_assoc]; exact sl_same (HG3.out W hW) hps0 _ _ c2)
    have HK3 : Hid (∀ W, Below w.heap.size w W → W.cell? ⟨ba, off + m * 4 + 3, none⟩ = some (.bool p.neg)) := Lib.hid (fun W hW => by rw [Nat.add_assoc]; exact sl_same (HG3.out W hW) hps0 _ _ c3)
    have HSU := Lib.hid (fun W hW => HG2.out W hW m u p gu hp)
    obtain ⟨au, cu, rfl, hcu⟩ := (HSU.out w5 HB.out).form
    have k0 := HK0.out w5 HB.out
    have hml : m < ps.length := by omega
    clear hdrop hp c0 c1 c2 c3 gu
    go_cut [8] (fun z wx => z = .bool (many p) ∧ w5 = wx)
    case first =>
      by_cases h3 : p.kind = 3
      · have t3 : (p.kind == 3) = true := by simpa using h3
        have HM : Hid (many p = true) := Lib.hid (by unfold many; rw [t3]; rfl)
        clear h3
        go_wp2_with (fail)
        go_meet
        exact ⟨by rw [HM.out], rfl⟩
      · have t3 : (p.kind == 3) = false := by simpa using h3
        clear h3
        cases t4 : (p.kind == 4)
        all_goals
          have HM : Hid (many p = (p.kind == 4)) := Lib.hid (by unfold many; rw [t3]; rfl)
          rw [t4] at HM
          go_wp2_with (fail)
          go_meet
          exact ⟨by rw [HM.out], rfl⟩
    case rest =>
    obtain ⟨rfl, rfl⟩ := hcut
    obtain ⟨w6, rfl⟩ : ∃ z : World, z = w5 := ⟨_, rfl⟩
    clear k0
    go_wp2_with (fail)
    have HNB := Lib.hid HNX.out
    have hbn : b < nb := hb2
    have hwn : w.heap.size ≤ nb := by omega
    go_loopw [9] (fun i wr => ∃ (y : Int) (k : Nat), i = .int .i64 y ∧ y = (k : Int) - 1 ∧ k ≤ s.length + 1 ∧ nb < wr.heap.size ∧ Hid (Own wr nb (bcells s.length (nextM ps s m k))) ∧ Hid (Own wr b (bcells s.length (rowM ps s (m + 1)))) ∧ Hid (Below w.heap.size w wr)) (fun i _ => (intOf i + 1).toNat)
    case atStart => exact ⟨_, s.length + 1, rfl, by omega, Nat.le_refl _, by omega, HNB, HI, HB⟩
    case round =>
      clear HNX HNB HI HB hz2 hb2
      obtain ⟨y, k, rfl, hy, hk, hnw, HNX, HI, HB⟩ := hrel
      obtain ⟨wi, rfl⟩ : ∃ z : World, z = wr := ⟨_, rfl⟩
      by_cases hlt : 0 < k
      rotate_left
      · have d2 : decide ((0 : Int) ≤ y) = false := decide_eq_false (by omega)
        have e : k = 0 := by omega
        subst e
        have HNE : Hid (Own wi nb (bcells s.length (rowM ps s m))) := Lib.hid (by rw [← next_end ps s m]; exact HNX.out)
        clear hy hlt HNX HI
        go_wp2_with (fail)
        go_roundw
        case rel => exact ⟨_, m, nb, rfl, rfl, rfl, by omega, hwn, hnw, HNE, HB⟩
        case measure => simp [intOf] <;> omega
      obtain ⟨t, rfl⟩ : ∃ t, k = t + 1 := ⟨k - 1, by omega⟩
      have e : y = (t : Int) := by omega
      subst e
      clear hy hlt
      have d2 : decide ((0 : Int) ≤ (t : Int)) = true := decide_eq_true (by omega)
      have q4 : IntKind.i64.wrap ((t : Int) - 1) = (t : Int) - 1 := IntWalk.i64_in _ (by omega)
      have q5 : IntKind.i64.wrap ((t : Int) + 1) = (t : Int) + 1 := IntWalk.i64_in _ (by omega)
      have htn : t ≤ s.length := by omega
      have hwi : w.heap.size ≤ wi.heap.size := HB.out.size
      have HST := Lib.hid (fun v h => next_step ps s m t v h)
      have HTK := Lib.hid (fun (W : World) (c : Int) (hW : Below wi.heap.size wi W) => refTakes_any p c B (.slice au p.rs.length cu) W (HSU.out W (HB.out.trans (hW.mono hwi))) (by have := hW.size; omega) hprl)
      cases hmp : many p with
      | true =>
        cases hr1 : rowM ps s (m + 1) t with
        | true =>
          have ER := Lib.hid hr1
          have HV : Hid (true = rowM ps s m t) := Lib.hid (by
            by_cases hln : t < s.length
            · rw [row_many ps s m t p HD.out hmp hln, hr1]; rfl
            · have e : t = s.length := by omega
              rw [e] at hr1 ⊢
              rw [row_many_end ps s m p HD.out hmp, hr1])
          clear hr1
          go_upto_region 12 with (fail)
          clear hmp
          refine Mono.region_tail 30 (by kernel_rfl) (by kernel_rfl) (by kernel_rfl) (by kernel_rfl) ?_
          simp only [List.take_succ_cons, List.take_zero]
          refine Mono.hgl_val (v := ?vma0) rfl Mono.rr (fun ρ a W hR hd hf => ?hma0) ?_
          case hma0 =>
            have e7 := Mono.init_get hf (t := 7) (by kernel_rfl)
            clear hd hf
            (go_simp; try with_reducible rfl)
          refine Mono.hgl_val (v := ?vma1) rfl Mono.rr (fun ρ a W hR hd hf => ?hma1) ?_
          case hma1 =>
            have e9 := Mono.init_get hf (t := 9) (by kernel_rfl)
            clear hd hf
            (go_simp; try with_reducible rfl)
          refine Mono.hgl_val (v := ?vma2) rfl Mono.rr (fun ρ a W hR hd hf => ?hma2) ?_
          case hma2 =>
            have e5 := Mono.init_get hf (t := 5) (by kernel_rfl)
            clear hd hf
            (go_simp; try with_reducible rfl)
          refine Mono.hgl_val (v := ?vma3) rfl Mono.rr (fun ρ a W hR hd hf => ?hma3) ?_
          case hma3 =>
            have e9 := Mono.init_get hf (t := 9) (by kernel_rfl)
            clear hd hf
            (go_simp; try with_reducible rfl)
          refine Mono.hgl_val (v := ?vma4) rfl Mono.rr (fun ρ a W hR hd hf => ?hma4) ?_
          case hma4 =>
            have e52 := Mono.dep_val hd hf (t := 52) (k := 2) (by kernel_rfl) rfl
            have e53 := Mono.dep_val hd hf (t := 53) (k := 3) (by kernel_rfl) rfl
            have hq : (t : Int) < (s.length : Int) + 1 := by omega
            clear hd hf
            (go_simp; try with_reducible rfl)
          refine Mono.hgl_val (v := ?vma5) rfl Mono.rr (fun ρ a W hR hd hf => ?hma5) ?_
          case hma5 =>
            have e54 := Mono.dep_val hd hf (t := 54) (k := 4) (by kernel_rfl) rfl
            have hk := own_b (HI.out.below hR (by omega)) t htn
            rw [ER.out] at hk
            clear hd hf
            (go_simp; try with_reducible rfl)
          refine Mono.hgl_val (v := ?vma6) rfl Mono.rr (fun ρ a W hR hd hf => ?hma6) ?_
          case hma6 =>
            have e55 := Mono.dep_val hd hf (t := 55) (k := 5) (by kernel_rfl) rfl
            clear hd hf
            (go_simp; try with_reducible rfl)
          refine Mono.hgl_skip rfl (by decide) (fun ρ W hd => Mono.guard_val hd (t := 56) (k := 6) (by kernel_rfl) rfl) ?_
          refine Mono.hgl_skip rfl (by decide) (fun ρ W hd => Mono.guard_val hd (t := 56) (k := 6) (by kernel_rfl) rfl) ?_
          refine Mono.hgl_skip rfl (by decide) (fun ρ W hd => Mono.guard_val hd (t := 56) (k := 6) (by kernel_rfl) rfl) ?_
          refine Mono.hgl_skip rfl (by decide) (fun ρ W hd => Mono.guard_val hd (t := 56) (k := 6) (by kernel_rfl) rfl) ?_
          refine Mono.hgl_skip rfl (by decide) (fun ρ W hd => Mono.guard_val hd (t := 56) (k := 6) (by kernel_rfl) rfl) ?_
          refine Mono.hgl_skip' rfl (fun ρ W hd => Mono.guard_val hd (t := 61) (k := 11) (by kernel_rfl) rfl) ?_
          refine Mono.hgl_skip' rfl (fun ρ W hd => Mono.guard_val hd (t := 61) (k := 11) (by kernel_rfl) rfl) ?_
          refine Mono.hgl_skip' rfl (fun ρ W hd => Mono.guard_val hd (t := 61) (k := 11) (by kernel_rfl) rfl) ?_
          refine Mono.hgl_skip' rfl (fun ρ W hd => Mono.guard_val hd (t := 61) (k := 11) (by kernel_rfl) rfl) ?_
          refine Mono.hgl_skip' rfl (fun ρ W hd => Mono.guard_val hd (t := 61) (k := 11) (by kernel_rfl) rfl) ?_
          refine Mono.hgl_skip' rfl (fun ρ W hd => Mono.guard_val hd (t := 61) (k := 11) (by kernel_rfl) rfl) ?_
          refine Mono.hgl_skip' rfl (fun ρ W hd => Mono.guard_val hd (t := 61) (k := 11) (by kernel_rfl) rfl) ?_
          refine Mono.hgl_skip' rfl (fun ρ W hd => Mono.guard_val hd (t := 61) (k := 11) (by kernel_rfl) rfl) ?_
          refine Mono.hgl_skip' rfl (fun ρ W hd => Mono.guard_val hd (t := 61) (k := 11) (by kernel_rfl) rfl) ?_
          refine Mono.hgl_skip rfl (by decide) (fun ρ W hd => Mono.guard_val hd (t := 56) (k := 6) (by kernel_rfl) rfl) ?_
          refine Mono.hgl_skip rfl (by decide) (fun ρ W hd => Mono.guard_val hd (t := 56) (k := 6) (by kernel_rfl) rfl) ?_
          refine Mono.hgl_skip' rfl (fun ρ W hd => Mono.guard_val hd (t := 72) (k := 22) (by kernel_rfl) rfl) ?_
          refine Mono.hgl_skip' rfl (fun ρ W hd => Mono.guard_val hd (t := 72) (k := 22) (by kernel_rfl) rfl) ?_
          refine Mono.hgl_skip' rfl (fun ρ W hd => Mono.guard_val hd (t := 72) (k := 22) (by kernel_rfl) rfl) ?_
          refine Mono.hgl_skip' rfl (fun ρ W hd => Mono.guard_val hd (t := 72) (k := 22) (by kernel_rfl) rfl) ?_
          refine Mono.hgl_skip' rfl (fun ρ W hd => Mono.guard_val hd (t := 72) (k := 22) (by kernel_rfl) rfl) ?_
          refine Mono.hgl_skip rfl (by decide) (fun ρ W hd => Mono.guard_val hd (t := 56) (k := 6) (by kernel_rfl) rfl) ?_
          refine Mono.hgl_val (v := ?vma29) rfl Mono.rr (fun ρ a W hR hd hf => ?hma29) ?_
          case hma29 =>
            have e56 := Mono.dep_val hd hf (t := 56) (k := 6) (by kernel_rfl) rfl
            have e78 := Mono.dep_val hd hf (t := 78) (k := 28) (by kernel_rfl) rfl
            clear hd hf
            (go_simp; try with_reducible rfl)
          refine Mono.hgl_done rfl (by decide) (fun ρ W hR ht => ?_)
          simp only [List.take_succ_cons, List.take_zero, List.drop_succ_cons, List.drop_zero]
          obtain ⟨dma29, dma28, dma27, dma26, dma25, dma24, dma23, dma22, dma21, dma20, dma19, dma18, dma17, dma16, dma15, dma14, dma13, dma12, dma11, dma10, dma9, dma8, dma7, dma6, dma5, dma4, dma3, dma2, dma1, dma0, _⟩ := ht
          simp only [List.length_cons, List.length_nil, Nat.reduceAdd] at dma0 dma1 dma2 dma3 dma4 dma5 dma6 dma7 dma8 dma9 dma10 dma11 dma12 dma13 dma14 dma15 dma16 dma17 dma18 dma19 dma20 dma21 dma22 dma23 dma24 dma25 dma26 dma27 dma28 dma29
          simp only [Mono.putAll, Nat.reduceAdd, dma0, dma1, dma2, dma3, dma4, dma5, dma6, dma7, dma8, dma9, dma10, dma11, dma12, dma13, dma14, dma15, dma16, dma17, dma18, dma19, dma20, dma21, dma22, dma23, dma24, dma25, dma26, dma27, dma28, dma29, Act.put, List.setIfInBounds_toArray, List.set_cons_zero, List.set_cons_succ]
          clear dma0 dma1 dma2 dma3 dma4 dma5 dma6 dma7 dma8 dma9 dma10 dma11 dma12 dma13 dma14 dma15 dma16 dma17 dma18 dma19 dma20 dma21 dma22 dma23 dma24 dma25 dma26 dma27 dma28 dma29
          have hkN := HNX.out.below hR hnw
          have kN := own_b hkN t htn
          have fN := hkN.2
          have hq1 : t < s.length + 1 := by omega
          have hq2 : (t : Int) < (s.length : Int) + 1 := by omega
          go_upto_region 10 with (fail)
          have HNX : Hid (Own (W.setCell ⟨nb, t, none⟩ (.bool true)) nb (bcells s.length (nextM ps s m t))) := Lib.hid (by
            have h9 := own_bset hkN t true htn
            rw [HST.out true (HV.out)] at h9
            exact h9)
          have HI := Lib.hid ((HI.out.below hR (by omega)).other (c := nb) (by omega) t (.bool true))
          have HB := Lib.hid ((HB.out.trans (hR.mono hwi)).setCell (p := ⟨nb, t, none⟩) hwn (.bool true))
          have hnw : nb < (W.setCell ⟨nb, t, none⟩ (.bool true)).heap.size := by have := hR.size; simp [World.setCell]; omega
          clear kN fN hkN hR hq1 hq2
          generalize W.setCell ⟨nb, t, none⟩ (.bool true) = w7 at *
          go_wp2_with (fail)
          go_roundw
          case rel => exact ⟨_, t, rfl, rfl, by omega, hnw, HNX, HI, HB⟩
          case measure => simp [intOf] <;> omega
        | false =>
          have ER := Lib.hid hr1
          by_cases hln : t < s.length
          rotate_left
          · have D3 : Hid (decide ((t : Int) < (s.length : Int)) = false) := Lib.hid (decide_eq_false (by omega))
            have HV : Hid (false = rowM ps s m t) := Lib.hid (by
              have e : t = s.length := by omega
              rw [e] at hr1 ⊢
              rw [row_many_end ps s m p HD.out hmp, hr1])
            clear hr1
            go_upto_region 12 with (fail)
            clear hmp
            refine Mono.region_tail 30 (by kernel_rfl) (by kernel_rfl) (by kernel_rfl) (by kernel_rfl) ?_
            simp only [List.take_succ_cons, List.take_zero]
            refine Mono.hgl_val (v := ?vmb0) rfl Mono.rr (fun ρ a W hR hd hf => ?hmb0) ?_
            case hmb0 =>
              have e7 := Mono.init_get hf (t := 7) (by kernel_rfl)
              clear hd hf
              (go_simp; try with_reducible rfl)
            refine Mono.hgl_val (v := ?vmb1) rfl Mono.rr (fun ρ a W hR hd hf => ?hmb1) ?_
            case hmb1 =>
              have e9 := Mono.init_get hf (t := 9) (by kernel_rfl)
              clear hd hf
              (go_simp; try with_reducible rfl)
            refine Mono.hgl_val (v := ?vmb2) rfl Mono.rr (fun ρ a W hR hd hf => ?hmb2) ?_
            case hmb2 =>
              have e5 := Mono.init_get hf (t := 5) (by kernel_rfl)
              clear hd hf
              (go_simp; try with_reducible rfl)
            refine Mono.hgl_val (v := ?vmb3) rfl Mono.rr (fun ρ a W hR hd hf => ?hmb3) ?_
            case hmb3 =>
              have e9 := Mono.init_get hf (t := 9) (by kernel_rfl)
              clear hd hf
              (go_simp; try with_reducible rfl)
            refine Mono.hgl_val (v := ?vmb4) rfl Mono.rr (fun ρ a W hR hd hf => ?hmb4) ?_
            case hmb4 =>
              have e52 := Mono.dep_val hd hf (t := 52) (k := 2) (by kernel_rfl) rfl
              have e53 := Mono.dep_val hd hf (t := 53) (k := 3) (by kernel_rfl) rfl
              have hq : (t : Int) < (s.length : Int) + 1 := by omega
              clear hd hf
              (go_simp; try with_reducible rfl)
            refine Mono.hgl_val (v := ?vmb5) rfl Mono.rr (fun ρ a W hR hd hf => ?hmb5) ?_
            case hmb5 =>
              have e54 := Mono.dep_val hd hf (t := 54) (k := 4) (by kernel_rfl) rfl
              have hk := own_b (HI.out.below hR (by omega)) t htn
              rw [ER.out] at hk
              clear hd hf
              (go_simp; try with_reducible rfl)
            refine Mono.hgl_val (v := ?vmb6) rfl Mono.rr (fun ρ a W hR hd hf => ?hmb6) ?_
            case hmb6 =>
              have e55 := Mono.dep_val hd hf (t := 55) (k := 5) (by kernel_rfl) rfl
              clear hd hf
              (go_simp; try with_reducible rfl)
            refine Mono.hgl_valg (v := ?vmb7) rfl Mono.rr (fun ρ W hd => Mono.guard_val hd (t := 56) (k := 6) (by kernel_rfl) rfl) (fun ρ a W hR hd hf => ?hmb7) ?_
            case hmb7 =>
              have e9 := Mono.init_get hf (t := 9) (by kernel_rfl)
              clear hd hf
              (go_simp; try with_reducible rfl)
            refine Mono.hgl_valg (v := ?vmb8) rfl Mono.rr (fun ρ W hd => Mono.guard_val hd (t := 56) (k := 6) (by kernel_rfl) rfl) (fun ρ a W hR hd hf => ?hmb8) ?_
            case hmb8 =>
              have e1 := Mono.init_get hf (t := 1) (by kernel_rfl)
              clear hd hf
              (go_simp; try with_reducible rfl)
            refine Mono.hgl_valg (v := ?vmb9) rfl Mono.rr (fun ρ W hd => Mono.guard_val hd (t := 56) (k := 6) (by kernel_rfl) rfl) (fun ρ a W hR hd hf => ?hmb9) ?_
            case hmb9 =>
              have e58 := Mono.dep_val hd hf (t := 58) (k := 8) (by kernel_rfl) rfl
              clear hd hf
              (go_simp; try with_reducible rfl)
            refine Mono.hgl_valg (v := ?vmb10) rfl Mono.rr (fun ρ W hd => Mono.guard_val hd (t := 56) (k := 6) (by kernel_rfl) rfl) (fun ρ a W hR hd hf => ?hmb10) ?_
            case hmb10 =>
              have e57 := Mono.dep_val hd hf (t := 57) (k := 7) (by kernel_rfl) rfl
              have e59 := Mono.dep_val hd hf (t := 59) (k := 9) (by kernel_rfl) rfl
              have hd := D3.out
              clear hd hf
              (go_simp; try with_reducible rfl)
            refine Mono.hgl_valg (v := ?vmb11) rfl Mono.rr (fun ρ W hd => Mono.guard_val hd (t := 56) (k := 6) (by kernel_rfl) rfl) (fun ρ a W hR hd hf => ?hmb11) ?_
            case hmb11 =>
              have e60 := Mono.dep_val hd hf (t := 60) (k := 10) (by kernel_rfl) rfl
              clear hd hf
              (go_simp; try with_reducible rfl)
            refine Mono.hgl_skip rfl (by decide) (fun ρ W hd => Mono.guard_val hd (t := 61) (k := 11) (by kernel_rfl) rfl) ?_
            refine Mono.hgl_skip rfl (by decide) (fun ρ W hd => Mono.guard_val hd (t := 61) (k := 11) (by kernel_rfl) rfl) ?_
            refine Mono.hgl_skip rfl (by decide) (fun ρ W hd => Mono.guard_val hd (t := 61) (k := 11) (by kernel_rfl) rfl) ?_
            refine Mono.hgl_skip rfl (by decide) (fun ρ W hd => Mono.guard_val hd (t := 61) (k := 11) (by kernel_rfl) rfl) ?_
            refine Mono.hgl_skip rfl (by decide) (fun ρ W hd => Mono.guard_val hd (t := 61) (k := 11) (by kernel_rfl) rfl) ?_
            refine Mono.hgl_skip rfl (by decide) (fun ρ W hd => Mono.guard_val hd (t := 61) (k := 11) (by kernel_rfl) rfl) ?_
            refine Mono.hgl_skip rfl (by decide) (fun ρ W hd => Mono.guard_val hd (t := 61) (k := 11) (by kernel_rfl) rfl) ?_
            refine Mono.hgl_skip rfl (by decide) (fun ρ W hd => Mono.guard_val hd (t := 61) (k := 11) (by kernel_rfl) rfl) ?_
            refine Mono.hgl_skip rfl (by decide) (fun ρ W hd => Mono.guard_val hd (t := 61) (k := 11) (by kernel_rfl) rfl) ?_
            refine Mono.hgl_valg (v := ?vmb21) rfl Mono.rr (fun ρ W hd => Mono.guard_val hd (t := 56) (k := 6) (by kernel_rfl) rfl) (fun ρ a W hR hd hf => ?hmb21) ?_
            case hmb21 =>
              have e61 := Mono.dep_val hd hf (t := 61) (k := 11) (by kernel_rfl) rfl
              have e70 := Mono.dep_val hd hf (t := 70) (k := 20) (by kernel_rfl) rfl
              clear hd hf
              (go_simp; try with_reducible rfl)
            refine Mono.hgl_valg (v := ?vmb22) rfl Mono.rr (fun ρ W hd => Mono.guard_val hd (t := 56) (k := 6) (by kernel_rfl) rfl) (fun ρ a W hR hd hf => ?hmb22) ?_
            case hmb22 =>
              have e71 := Mono.dep_val hd hf (t := 71) (k := 21) (by kernel_rfl) rfl
              clear hd hf
              (go_simp; try with_reducible rfl)
            refine Mono.hgl_skip rfl (by decide) (fun ρ W hd => Mono.guard_val hd (t := 72) (k := 22) (by kernel_rfl) rfl) ?_
            refine Mono.hgl_skip rfl (by decide) (fun ρ W hd => Mono.guard_val hd (t := 72) (k := 22) (by kernel_rfl) rfl) ?_
            refine Mono.hgl_skip rfl (by decide) (fun ρ W hd => Mono.guard_val hd (t := 72) (k := 22) (by kernel_rfl) rfl) ?_
            refine Mono.hgl_skip rfl (by decide) (fun ρ W hd => Mono.guard_val hd (t := 72) (k := 22) (by kernel_rfl) rfl) ?_
            refine Mono.hgl_skip rfl (by decide) (fun ρ W hd => Mono.guard_val hd (t := 72) (k := 22) (by kernel_rfl) rfl) ?_
            refine Mono.hgl_valg (v := ?vmb28) rfl Mono.rr (fun ρ W hd => Mono.guard_val hd (t := 56) (k := 6) (by kernel_rfl) rfl) (fun ρ a W hR hd hf => ?hmb28) ?_
            case hmb28 =>
              have e72 := Mono.dep_val hd hf (t := 72) (k := 22) (by kernel_rfl) rfl
              have e77 := Mono.dep_val hd hf (t := 77) (k := 27) (by kernel_rfl) rfl
              clear hd hf
              (go_simp; try with_reducible rfl)
            refine Mono.hgl_val (v := ?vmb29) rfl Mono.rr (fun ρ a W hR hd hf => ?hmb29) ?_
            case hmb29 =>
              have e56 := Mono.dep_val hd hf (t := 56) (k := 6) (by kernel_rfl) rfl
              have e78 := Mono.dep_val hd hf (t := 78) (k := 28) (by kernel_rfl) rfl
              clear hd hf
              (go_simp; try with_reducible rfl)
            refine Mono.hgl_done rfl (by decide) (fun ρ W hR ht => ?_)
            simp only [List.take_succ_cons, List.take_zero, List.drop_succ_cons, List.drop_zero]
            obtain ⟨dmb29, dmb28, dmb27, dmb26, dmb25, dmb24, dmb23, dmb22, dmb21, dmb20, dmb19, dmb18, dmb17, dmb16, dmb15, dmb14, dmb13, dmb12, dmb11, dmb10, dmb9, dmb8, dmb7, dmb6, dmb5, dmb4, dmb3, dmb2, dmb1, dmb0, _⟩ := ht
            simp only [List.length_cons, List.length_nil, Nat.reduceAdd] at dmb0 dmb1 dmb2 dmb3 dmb4 dmb5 dmb6 dmb7 dmb8 dmb9 dmb10 dmb11 dmb12 dmb13 dmb14 dmb15 dmb16 dmb17 dmb18 dmb19 dmb20 dmb21 dmb22 dmb23 dmb24 dmb25 dmb26 dmb27 dmb28 dmb29
            simp only [Mono.putAll, Nat.reduceAdd, dmb0, dmb1, dmb2, dmb3, dmb4, dmb5, dmb6, dmb7, dmb8, dmb9, dmb10, dmb11, dmb12, dmb13, dmb14, dmb15, dmb16, dmb17, dmb18, dmb19, dmb20, dmb21, dmb22, dmb23, dmb24, dmb25, dmb26, dmb27, dmb28, dmb29, Act.put, List.setIfInBounds_toArray, List.set_cons_zero, List.set_cons_succ]
            clear dmb0 dmb1 dmb2 dmb3 dmb4 dmb5 dmb6 dmb7 dmb8 dmb9 dmb10 dmb11 dmb12 dmb13 dmb14 dmb15 dmb16 dmb17 dmb18 dmb19 dmb20 dmb21 dmb22 dmb23 dmb24 dmb25 dmb26 dmb27 dmb28 dmb29
            have hkN := HNX.out.below hR hnw
            have kN := own_b hkN t htn
            have fN := hkN.2
            have hq1 : t < s.length + 1 := by omega
            have hq2 : (t : Int) < (s.length : Int) + 1 := by omega
            go_upto_region 10 with (fail)
            have HNX : Hid (Own (W.setCell ⟨nb, t, none⟩ (.bool false)) nb (bcells s.length (nextM ps s m t))) := Lib.hid (by
              have h9 := own_bset hkN t false htn
              rw [HST.out false (HV.out)] at h9
              exact h9)
            have HI := Lib.hid ((HI.out.below hR (by omega)).other (c := nb) (by omega) t (.bool false))
            have HB := Lib.hid ((HB.out.trans (hR.mono hwi)).setCell (p := ⟨nb, t, none⟩) hwn (.bool false))
            have hnw : nb < (W.setCell ⟨nb, t, none⟩ (.bool false)).heap.size := by have := hR.size; simp [World.setCell]; omega
            clear kN fN hkN hR hq1 hq2
            generalize W.setCell ⟨nb, t, none⟩ (.bool false) = w7 at *
            go_wp2_with (fail)
            go_roundw
            case rel => exact ⟨_, t, rfl, rfl, by omega, hnw, HNX, HI, HB⟩
            case measure => simp [intOf] <;> omega
          have D3 : Hid (decide ((t : Int) < (s.length : Int)) = true) := Lib.hid (decide_eq_true (by omega))
          have hs0 : 0 < s.length := by omega
          obtain ⟨sb, so, rfl, _⟩ := sl_cells (HSl.out wi HB.out) hs0
          have HSC : Hid (∀ W, Below w.heap.size w W → W.cell? ⟨sb, so + t, none⟩ = some (.int .i64 (s.getD t 0))) := Lib.hid (fun W hW => sl_same (HSl.out W hW) hs0 _ _ (by unfold icells; rw [List.getElem?_map, sg_get s t hln]; rfl))
          have HRM := Lib.hid (row_many ps s m t p HD.out hmp hln)
          go_upto_region 12 with (fail)
          clear hmp
          generalize s.getD t 0 = c at *
          cases htc : takes p c with
          | false =>
            have HTQ := Lib.hid (fun (W : World) (hW : Below wi.heap.size wi W) => HTK.out W c hW)
            rw [htc] at HTQ
            have HV : Hid (false = rowM ps s m t) := Lib.hid (by rw [HRM.out, ER.out, htc]; rfl)
            clear htc hr1
            refine Mono.region_tail 30 (by kernel_rfl) (by kernel_rfl) (by kernel_rfl) (by kernel_rfl) ?_
            simp only [List.take_succ_cons, List.take_zero]
            refine Mono.hgl_val (v := ?vmc0) rfl Mono.rr (fun ρ a W hR hd hf => ?hmc0) ?_
            case hmc0 =>
              have e7 := Mono.init_get hf (t := 7) (by kernel_rfl)
              clear hd hf
              (go_simp; try with_reducible rfl)
            refine Mono.hgl_val (v := ?vmc1) rfl Mono.rr (fun ρ a W hR hd hf => ?hmc1) ?_
            case hmc1 =>
              have e9 := Mono.init_get hf (t := 9) (by kernel_rfl)
              clear hd hf
              (go_simp; try with_reducible rfl)
            refine Mono.hgl_val (v := ?vmc2) rfl Mono.rr (fun ρ a W hR hd hf => ?hmc2) ?_
            case hmc2 =>
              have e5 := Mono.init_get hf (t := 5) (by kernel_rfl)
              clear hd hf
              (go_simp; try with_reducible rfl)
            refine Mono.hgl_val (v := ?vmc3) rfl Mono.rr (fun ρ a W hR hd hf => ?hmc3) ?_
            case hmc3 =>
              have e9 := Mono.init_get hf (t := 9) (by kernel_rfl)
              clear hd hf
              (go_simp; try with_reducible rfl)
            refine Mono.hgl_val (v := ?vmc4) rfl Mono.rr (fun ρ a W hR hd hf => ?hmc4) ?_
            case hmc4 =>
              have e52 := Mono.dep_val hd hf (t := 52) (k := 2) (by kernel_rfl) rfl
              have e53 := Mono.dep_val hd hf (t := 53) (k := 3) (by kernel_rfl) rfl
              have hq : (t : Int) < (s.length : Int) + 1 := by omega
              clear hd hf
              (go_simp; try with_reducible rfl)
            refine Mono.hgl_val (v := ?vmc5) rfl Mono.rr (fun ρ a W hR hd hf => ?hmc5) ?_
            case hmc5 =>
              have e54 := Mono.dep_val hd hf (t := 54) (k := 4) (by kernel_rfl) rfl
              have hk := own_b (HI.out.below hR (by omega)) t htn
              rw [ER.out] at hk
              clear hd hf
              (go_simp; try with_reducible rfl)
            refine Mono.hgl_val (v := ?vmc6) rfl Mono.rr (fun ρ a W hR hd hf => ?hmc6) ?_
            case hmc6 =>
              have e55 := Mono.dep_val hd hf (t := 55) (k := 5) (by kernel_rfl) rfl
              clear hd hf
              (go_simp; try with_reducible rfl)
            refine Mono.hgl_valg (v := ?vmc7) rfl Mono.rr (fun ρ W hd => Mono.guard_val hd (t := 56) (k := 6) (by kernel_rfl) rfl) (fun ρ a W hR hd hf => ?hmc7) ?_
            case hmc7 =>
              have e9 := Mono.init_get hf (t := 9) (by kernel_rfl)
              clear hd hf
              (go_simp; try with_reducible rfl)
            refine Mono.hgl_valg (v := ?vmc8) rfl Mono.rr (fun ρ W hd => Mono.guard_val hd (t := 56) (k := 6) (by kernel_rfl) rfl) (fun ρ a W hR hd hf => ?hmc8) ?_
            case hmc8 =>
              have e1 := Mono.init_get hf (t := 1) (by kernel_rfl)
              clear hd hf
              (go_simp; try with_reducible rfl)
            refine Mono.hgl_valg (v := ?vmc9) rfl Mono.rr (fun ρ W hd => Mono.guard_val hd (t := 56) (k := 6) (by kernel_rfl) rfl) (fun ρ a W hR hd hf => ?hmc9) ?_
            case hmc9 =>
              have e58 := Mono.dep_val hd hf (t := 58) (k := 8) (by kernel_rfl) rfl
              clear hd hf
              (go_simp; try with_reducible rfl)
            refine Mono.hgl_valg (v := ?vmc10) rfl Mono.rr (fun ρ W hd => Mono.guard_val hd (t := 56) (k := 6) (by kernel_rfl) rfl) (fun ρ a W hR hd hf => ?hmc10) ?_
            case hmc10 =>
              have e57 := Mono.dep_val hd hf (t := 57) (k := 7) (by kernel_rfl) rfl
              have e59 := Mono.dep_val hd hf (t := 59) (k := 9) (by kernel_rfl) rfl
              have hd := D3.out
              clear hd hf
              (go_simp; try with_reducible rfl)
            refine Mono.hgl_valg (v := ?vmc11) rfl Mono.rr (fun ρ W hd => Mono.guard_val hd (t := 56) (k := 6) (by kernel_rfl) rfl) (fun ρ a W hR hd hf => ?hmc11) ?_
            case hmc11 =>
              have e60 := Mono.dep_val hd hf (t := 60) (k := 10) (by kernel_rfl) rfl
              clear hd hf
              (go_simp; try with_reducible rfl)
            refine Mono.hgl_valg (v := ?vmc12) rfl Mono.rr (fun ρ W hd => Mono.guard_val hd (t := 61) (k := 11) (by kernel_rfl) rfl) (fun ρ a W hR hd hf => ?hmc12) ?_
            case hmc12 =>
              have e0 := Mono.init_get hf (t := 0) (by kernel_rfl)
              clear hd hf
              (go_simp; try with_reducible rfl)
            refine Mono.hgl_valg (v := ?vmc13) rfl Mono.rr (fun ρ W hd => Mono.guard_val hd (t := 61) (k := 11) (by kernel_rfl) rfl) (fun ρ a W hR hd hf => ?hmc13) ?_
            case hmc13 =>
              have e6 := Mono.init_get hf (t := 6) (by kernel_rfl)
              clear hd hf
              (go_simp; try with_reducible rfl)
            refine Mono.hgl_valg (v := ?vmc14) rfl Mono.rr (fun ρ W hd => Mono.guard_val hd (t := 61) (k := 11) (by kernel_rfl) rfl) (fun ρ a W hR hd hf => ?hmc14) ?_
            case hmc14 =>
              have e62 := Mono.dep_val hd hf (t := 62) (k := 12) (by kernel_rfl) rfl
              have e63 := Mono.dep_val hd hf (t := 63) (k := 13) (by kernel_rfl) rfl
              have hq : (m : Int) < (ps.length : Int) := by omega
              clear hd hf
              (go_simp; try with_reducible rfl)
            refine Mono.hgl_valg (v := ?vmc15) rfl Mono.rr (fun ρ W hd => Mono.guard_val hd (t := 61) (k := 11) (by kernel_rfl) rfl) (fun ρ a W hR hd hf => ?hmc15) ?_
            case hmc15 =>
              have e64 := Mono.dep_val hd hf (t := 64) (k := 14) (by kernel_rfl) rfl
              have hk0 := HK0.out W (HB.out.trans (hR.mono hwi))
              have hk1 := HK1.out W (HB.out.trans (hR.mono hwi))
              have hk2 := HK2.out W (HB.out.trans (hR.mono hwi))
              have hk3 := HK3.out W (HB.out.trans (hR.mono hwi))
              clear hd hf
              (go_simp; try with_reducible rfl)
            refine Mono.hgl_valg (v := ?vmc16) rfl Mono.rr (fun ρ W hd => Mono.guard_val hd (t := 61) (k := 11) (by kernel_rfl) rfl) (fun ρ a W hR hd hf => ?hmc16) ?_
            case hmc16 =>
              have e1 := Mono.init_get hf (t := 1) (by kernel_rfl)
              clear hd hf
              (go_simp; try with_reducible rfl)
            refine Mono.hgl_valg (v := ?vmc17) rfl Mono.rr (fun ρ W hd => Mono.guard_val hd (t := 61) (k := 11) (by kernel_rfl) rfl) (fun ρ a W hR hd hf => ?hmc17) ?_
            case hmc17 =>
              have e9 := Mono.init_get hf (t := 9) (by kernel_rfl)
              clear hd hf
              (go_simp; try with_reducible rfl)
            refine Mono.hgl_valg (v := ?vmc18) rfl Mono.rr (fun ρ W hd => Mono.guard_val hd (t := 61) (k := 11) (by kernel_rfl) rfl) (fun ρ a W hR hd hf => ?hmc18) ?_
            case hmc18 =>
              have e66 := Mono.dep_val hd hf (t := 66) (k := 16) (by kernel_rfl) rfl
              have e67 := Mono.dep_val hd hf (t := 67) (k := 17) (by kernel_rfl) rfl
              have hq : (t : Int) < (s.length : Int) := by omega
              clear hd hf
              (go_simp; try with_reducible rfl)
            refine Mono.hgl_valg (v := ?vmc19) rfl Mono.rr (fun ρ W hd => Mono.guard_val hd (t := 61) (k := 11) (by kernel_rfl) rfl) (fun ρ a W hR hd hf => ?hmc19) ?_
            case hmc19 =>
              have e68 := Mono.dep_val hd hf (t := 68) (k := 18) (by kernel_rfl) rfl
              have hk := HSC.out W (HB.out.trans (hR.mono hwi))
              clear hd hf
              (go_simp; try with_reducible rfl)
            refine Mono.hgl_callg (fun x _ => x = .bool false) rfl Mono.rr (fun _ _ _ h _ => h) (fun ρ W hd => Mono.guard_val hd (t := 61) (k := 11) (by kernel_rfl) rfl) (fun ρ a W hR hd hf => ?hmc20) ?_
            case hmc20 =>
              have e65 := Mono.dep_val hd hf (t := 65) (k := 15) (by kernel_rfl) rfl
              have e69 := Mono.dep_val hd hf (t := 69) (k := 19) (by kernel_rfl) rfl
              clear hd hf
              refine ⟨_, _, by go_simp; first | rfl | exact ⟨rfl, rfl⟩, ?_⟩
              exact (HTQ.out W hR).mono (fun e W' ⟨he, hb⟩ => ⟨_, he, hb, rfl⟩)
            refine Mono.hgl_valg (v := ?vmc21) rfl Mono.rr (fun ρ W hd => Mono.guard_val hd (t := 56) (k := 6) (by kernel_rfl) rfl) (fun ρ a W hR hd hf => ?hmc21) ?_
            case hmc21 =>
              have e61 := Mono.dep_val hd hf (t := 61) (k := 11) (by kernel_rfl) rfl
              have e70 := Mono.dep_val hd hf (t := 70) (k := 20) (by kernel_rfl) rfl
              clear hd hf
              (go_simp; try with_reducible rfl)
            refine Mono.hgl_valg (v := ?vmc22) rfl Mono.rr (fun ρ W hd => Mono.guard_val hd (t := 56) (k := 6) (by kernel_rfl) rfl) (fun ρ a W hR hd hf => ?hmc22) ?_
            case hmc22 =>
              have e71 := Mono.dep_val hd hf (t := 71) (k := 21) (by kernel_rfl) rfl
              clear hd hf
              (go_simp; try with_reducible rfl)
            refine Mono.hgl_skip rfl (by decide) (fun ρ W hd => Mono.guard_val hd (t := 72) (k := 22) (by kernel_rfl) rfl) ?_
            refine Mono.hgl_skip rfl (by decide) (fun ρ W hd => Mono.guard_val hd (t := 72) (k := 22) (by kernel_rfl) rfl) ?_
            refine Mono.hgl_skip rfl (by decide) (fun ρ W hd => Mono.guard_val hd (t := 72) (k := 22) (by kernel_rfl) rfl) ?_
            refine Mono.hgl_skip rfl (by decide) (fun ρ W hd => Mono.guard_val hd (t := 72) (k := 22) (by kernel_rfl) rfl) ?_
            refine Mono.hgl_skip rfl (by decide) (fun ρ W hd => Mono.guard_val hd (t := 72) (k := 22) (by kernel_rfl) rfl) ?_
            refine Mono.hgl_valg (v := ?vmc28) rfl Mono.rr (fun ρ W hd => Mono.guard_val hd (t := 56) (k := 6) (by kernel_rfl) rfl) (fun ρ a W hR hd hf => ?hmc28) ?_
            case hmc28 =>
              have e72 := Mono.dep_val hd hf (t := 72) (k := 22) (by kernel_rfl) rfl
              have e77 := Mono.dep_val hd hf (t := 77) (k := 27) (by kernel_rfl) rfl
              clear hd hf
              (go_simp; try with_reducible rfl)
            refine Mono.hgl_val (v := ?vmc29) rfl Mono.rr (fun ρ a W hR hd hf => ?hmc29) ?_
            case hmc29 =>
              have e56 := Mono.dep_val hd hf (t := 56) (k := 6) (by kernel_rfl) rfl
              have e78 := Mono.dep_val hd hf (t := 78) (k := 28) (by kernel_rfl) rfl
              clear hd hf
              (go_simp; try with_reducible rfl)
            refine Mono.hgl_done rfl (by decide) (fun ρ W hR ht => ?_)
            simp only [List.take_succ_cons, List.take_zero, List.drop_succ_cons, List.drop_zero]
            obtain ⟨dmc29, dmc28, dmc27, dmc26, dmc25, dmc24, dmc23, dmc22, dmc21, dmc20, dmc19, dmc18, dmc17, dmc16, dmc15, dmc14, dmc13, dmc12, dmc11, dmc10, dmc9, dmc8, dmc7, dmc6, dmc5, dmc4, dmc3, dmc2, dmc1, dmc0, _⟩ := ht
            simp only [List.length_cons, List.length_nil, Nat.reduceAdd] at dmc0 dmc1 dmc2 dmc3 dmc4 dmc5 dmc6 dmc7 dmc8 dmc9 dmc10 dmc11 dmc12 dmc13 dmc14 dmc15 dmc16 dmc17 dmc18 dmc19 dmc20 dmc21 dmc22 dmc23 dmc24 dmc25 dmc26 dmc27 dmc28 dmc29
            simp only [Mono.putAll, Nat.reduceAdd, dmc0, dmc1, dmc2, dmc3, dmc4, dmc5, dmc6, dmc7, dmc8, dmc9, dmc10, dmc11, dmc12, dmc13, dmc14, dmc15, dmc16, dmc17, dmc18, dmc19, dmc20, dmc21, dmc22, dmc23, dmc24, dmc25, dmc26, dmc27, dmc28, dmc29, Act.put, List.setIfInBounds_toArray, List.set_cons_zero, List.set_cons_succ]
            clear dmc0 dmc1 dmc2 dmc3 dmc4 dmc5 dmc6 dmc7 dmc8 dmc9 dmc10 dmc11 dmc12 dmc13 dmc14 dmc15 dmc16 dmc17 dmc18 dmc19 dmc20 dmc21 dmc22 dmc23 dmc24 dmc25 dmc26 dmc27 dmc28 dmc29
            have hkN := HNX.out.below hR hnw
            have kN := own_b hkN t htn
            have fN := hkN.2
            have hq1 : t < s.length + 1 := by omega
            have hq2 : (t : Int) < (s.length : Int) + 1 := by omega
            go_upto_region 10 with (fail)
            have HNX : Hid (Own (W.setCell ⟨nb, t, none⟩ (.bool false)) nb (bcells s.length (nextM ps s m t))) := Lib.hid (by
              have h9 := own_bset hkN t false htn
              rw [HST.out false (HV.out)] at h9
              exact h9)
            have HI := Lib.hid ((HI.out.below hR (by omega)).other (c := nb) (by omega) t (.bool false))
            have HB := Lib.hid ((HB.out.trans (hR.mono hwi)).setCell (p := ⟨nb, t, none⟩) hwn (.bool false))
            have hnw : nb < (W.setCell ⟨nb, t, none⟩ (.bool false)).heap.size := by have := hR.size; simp [World.setCell]; omega
            clear kN fN hkN hR hq1 hq2
            generalize W.setCell ⟨nb, t, none⟩ (.bool false) = w7 at *
            go_wp2_with (fail)
            go_roundw
            case rel => exact ⟨_, t, rfl, rfl, by omega, hnw, HNX, HI, HB⟩
            case measure => simp [intOf] <;> omega
          | true =>
            have HTQ := Lib.hid (fun (W : World) (hW : Below wi.heap.size wi W) => HTK.out W c hW)
            rw [htc] at HTQ
            have HV : Hid (nextM ps s m (t + 1) (t + 1) = rowM ps s m t) := Lib.hid (by rw [HRM.out, ER.out, htc, next_at ps s m (t + 1) (t + 1) (Nat.le_refl _)]; rfl)
            clear htc hr1
            refine Mono.region_tail 30 (by kernel_rfl) (by kernel_rfl) (by kernel_rfl) (by kernel_rfl) ?_
            simp only [List.take_succ_cons, List.take_zero]
            refine Mono.hgl_val (v := ?vmd0) rfl Mono.rr (fun ρ a W hR hd hf => ?hmd0) ?_
            case hmd0 =>
              have e7 := Mono.init_get hf (t := 7) (by kernel_rfl)
              clear hd hf
              (go_simp; try with_reducible rfl)
            refine Mono.hgl_val (v := ?vmd1) rfl Mono.rr (fun ρ a W hR hd hf => ?hmd1) ?_
            case hmd1 =>
              have e9 := Mono.init_get hf (t := 9) (by kernel_rfl)
              clear hd hf
              (go_simp; try with_reducible rfl)
            refine Mono.hgl_val (v := ?vmd2) rfl Mono.rr (fun ρ a W hR hd hf => ?hmd2) ?_
            case hmd2 =>
              have e5 := Mono.init_get hf (t := 5) (by kernel_rfl)
              clear hd hf
              (go_simp; try with_reducible rfl)
            refine Mono.hgl_val (v := ?vmd3) rfl Mono.rr (fun ρ a W hR hd hf => ?hmd3) ?_
            case hmd3 =>
              have e9 := Mono.init_get hf (t := 9) (by kernel_rfl)
              clear hd hf
              (go_simp; try with_reducible rfl)
            refine Mono.hgl_val (v := ?vmd4) rfl Mono.rr (fun ρ a W hR hd hf => ?hmd4) ?_
            case hmd4 =>
              have e52 := Mono.dep_val hd hf (t := 52) (k := 2) (by kernel_rfl) rfl
              have e53 := Mono.dep_val hd hf (t := 53) (k := 3) (by kernel_rfl) rfl
              have hq : (t : Int) < (s.length : Int) + 1 := by omega
              clear hd hf
              (go_simp; try with_reducible rfl)
            refine Mono.hgl_val (v := ?vmd5) rfl Mono.rr (fun ρ a W hR hd hf => ?hmd5) ?_
            case hmd5 =>
              have e54 := Mono.dep_val hd hf (t := 54) (k := 4) (by kernel_rfl) rfl
              have hk := own_b (HI.out.below hR (by omega)) t htn
              rw [ER.out] at hk
              clear hd hf
              (go_simp; try with_reducible rfl)
            refine Mono.hgl_val (v := ?vmd6) rfl Mono.rr (fun ρ a W hR hd hf => ?hmd6) ?_
            case hmd6 =>
              have e55 := Mono.dep_val hd hf (t := 55) (k := 5) (by kernel_rfl) rfl
              clear hd hf
              (go_simp; try with_reducible rfl)
            refine Mono.hgl_valg (v := ?vmd7) rfl Mono.rr (fun ρ W hd => Mono.guard_val hd (t := 56) (k := 6) (by kernel_rfl) rfl) (fun ρ a W hR hd hf => ?hmd7) ?_
            case hmd7 =>
              have e9 := Mono.init_get hf (t := 9) (by kernel_rfl)
              clear hd hf
              (go_simp; try with_reducible rfl)
            refine Mono.hgl_valg (v := ?vmd8) rfl Mono.rr (fun ρ W hd => Mono.guard_val hd (t := 56) (k := 6) (by kernel_rfl) rfl) (fun ρ a W hR hd hf => ?hmd8) ?_
            case hmd8 =>
              have e1 := Mono.init_get hf (t := 1) (by kernel_rfl)
              clear hd hf
              (go_simp; try with_reducible rfl)
            refine Mono.hgl_valg (v := ?vmd9) rfl Mono.rr (fun ρ W hd => Mono.guard_val hd (t := 56) (k := 6) (by kernel_rfl) rfl) (fun ρ a W hR hd hf => ?hmd9) ?_
            case hmd9 =>
              have e58 := Mono.dep_val hd hf (t := 58) (k := 8) (by kernel_rfl) rfl
              clear hd hf
              (go_simp; try with_reducible rfl)
            refine Mono.hgl_valg (v := ?vmd10) rfl Mono.rr (fun ρ W hd => Mono.guard_val hd (t := 56) (k := 6) (by kernel_rfl) rfl) (fun ρ a W hR hd hf => ?hmd10) ?_
            case hmd10 =>
              have e57 := Mono.dep_val hd hf (t := 57) (k := 7) (by kernel_rfl) rfl
              have e59 := Mono.dep_val hd hf (t := 59) (k := 9) (by kernel_rfl) rfl
              have hd := D3.out
              clear hd hf
              (go_simp; try with_reducible rfl)
            refine Mono.hgl_valg (v := ?vmd11) rfl Mono.rr (fun ρ W hd => Mono.guard_val hd (t := 56) (k := 6) (by kernel_rfl) rfl) (fun ρ a W hR hd hf => ?hmd11) ?_
            case hmd11 =>
              have e60 := Mono.dep_val hd hf (t := 60) (k := 10) (by kernel_rfl) rfl
              clear hd hf
              (go_simp; try with_reducible rfl)
            refine Mono.hgl_valg (v := ?vmd12) rfl Mono.rr (fun ρ W hd => Mono.guard_val hd (t := 61) (k := 11) (by kernel_rfl) rfl) (fun ρ a W hR hd hf => ?hmd12) ?_
            case hmd12 =>
              have e0 := Mono.init_get hf (t := 0) (by kernel_rfl)
              clear hd hf
              (go_simp; try with_reducible rfl)
            refine Mono.hgl_valg (v := ?vmd13) rfl Mono.rr (fun ρ W hd => Mono.guard_val hd (t := 61) (k := 11) (by kernel_rfl) rfl) (fun ρ a W hR hd hf => ?hmd13) ?_
            case hmd13 =>
              have e6 := Mono.init_get hf (t := 6) (by kernel_rfl)
              clear hd hf
              (go_simp; try with_reducible rfl)
            refine Mono.hgl_valg (v := ?vmd14) rfl Mono.rr (fun ρ W hd => Mono.guard_val hd (t := 61) (k := 11) (by kernel_rfl) rfl) (fun ρ a W hR hd hf => ?hmd14) ?_
            case hmd14 =>
              have e62 := Mono.dep_val hd hf (t := 62) (k := 12) (by kernel_rfl) rfl
              have e63 := Mono.dep_val hd hf (t := 63) (k := 13) (by kernel_rfl) rfl
              have hq : (m : Int) < (ps.length : Int) := by omega
              clear hd hf
              (go_simp; try with_reducible rfl)
            refine Mono.hgl_valg (v := ?vmd15) rfl Mono.rr (fun ρ W hd => Mono.guard_val hd (t := 61) (k := 11) (by kernel_rfl) rfl) (fun ρ a W hR hd hf => ?hmd15) ?_
            case hmd15 =>
              have e64 := Mono.dep_val hd hf (t := 64) (k := 14) (by kernel_rfl) rfl
              have hk0 := HK0.out W (HB.out.trans (hR.mono hwi))
              have hk1 := HK1.out W (HB.out.trans (hR.mono hwi))
              have hk2 := HK2.out W (HB.out.trans (hR.mono hwi))
              have hk3 := HK3.out W (HB.out.trans (hR.mono hwi))
              clear hd hf
              (go_simp; try with_reducible rfl)
            refine Mono.hgl_valg (v := ?vmd16) rfl Mono.rr (fun ρ W hd => Mono.guard_val hd (t := 61) (k := 11) (by kernel_rfl) rfl) (fun ρ a W hR hd hf => ?hmd16) ?_
            case hmd16 =>
              have e1 := Mono.init_get hf (t := 1) (by kernel_rfl)
              clear hd hf
              (go_simp; try with_reducible rfl)
            refine Mono.hgl_valg (v := ?vmd17) rfl Mono.rr (fun ρ W hd => Mono.guard_val hd (t := 61) (k := 11) (by kernel_rfl) rfl) (fun ρ a W hR hd hf => ?hmd17) ?_
            case hmd17 =>
              have e9 := Mono.init_get hf (t := 9) (by kernel_rfl)
              clear hd hf
              (go_simp; try with_reducible rfl)
            refine Mono.hgl_valg (v := ?vmd18) rfl Mono.rr (fun ρ W hd => Mono.guard_val hd (t := 61) (k := 11) (by kernel_rfl) rfl) (fun ρ a W hR hd hf => ?hmd18) ?_
            case hmd18 =>
              have e66 := Mono.dep_val hd hf (t := 66) (k := 16) (by kernel_rfl) rfl
              have e67 := Mono.dep_val hd hf (t := 67) (k := 17) (by kernel_rfl) rfl
              have hq : (t : Int) < (s.length : Int) := by omega
              clear hd hf
              (go_simp; try with_reducible rfl)
            refine Mono.hgl_valg (v := ?vmd19) rfl Mono.rr (fun ρ W hd => Mono.guard_val hd (t := 61) (k := 11) (by kernel_rfl) rfl) (fun ρ a W hR hd hf => ?hmd19) ?_
            case hmd19 =>
              have e68 := Mono.dep_val hd hf (t := 68) (k := 18) (by kernel_rfl) rfl
              have hk := HSC.out W (HB.out.trans (hR.mono hwi))
              clear hd hf
              (go_simp; try with_reducible rfl)
            refine Mono.hgl_callg (fun x _ => x = .bool true) rfl Mono.rr (fun _ _ _ h _ => h) (fun ρ W hd => Mono.guard_val hd (t := 61) (k := 11) (by kernel_rfl) rfl) (fun ρ a W hR hd hf => ?hmd20) ?_
            case hmd20 =>
              have e65 := Mono.dep_val hd hf (t := 65) (k := 15) (by kernel_rfl) rfl
              have e69 := Mono.dep_val hd hf (t := 69) (k := 19) (by kernel_rfl) rfl
              clear hd hf
              refine ⟨_, _, by go_simp; first | rfl | exact ⟨rfl, rfl⟩, ?_⟩
              exact (HTQ.out W hR).mono (fun e W' ⟨he, hb⟩ => ⟨_, he, hb, rfl⟩)
            refine Mono.hgl_valg (v := ?vmd21) rfl Mono.rr (fun ρ W hd => Mono.guard_val hd (t := 56) (k := 6) (by kernel_rfl) rfl) (fun ρ a W hR hd hf => ?hmd21) ?_
            case hmd21 =>
              have e61 := Mono.dep_val hd hf (t := 61) (k := 11) (by kernel_rfl) rfl
              have e70 := Mono.dep_val hd hf (t := 70) (k := 20) (by kernel_rfl) rfl
              clear hd hf
              (go_simp; try with_reducible rfl)
            refine Mono.hgl_valg (v := ?vmd22) rfl Mono.rr (fun ρ W hd => Mono.guard_val hd (t := 56) (k := 6) (by kernel_rfl) rfl) (fun ρ a W hR hd hf => ?hmd22) ?_
            case hmd22 =>
              have e71 := Mono.dep_val hd hf (t := 71) (k := 21) (by kernel_rfl) rfl
              clear hd hf
              (go_simp; try with_reducible rfl)
            refine Mono.hgl_valg (v := ?vmd23) rfl Mono.rr (fun ρ W hd => Mono.guard_val hd (t := 72) (k := 22) (by kernel_rfl) rfl) (fun ρ a W hR hd hf => ?hmd23) ?_
            case hmd23 =>
              have e7 := Mono.init_get hf (t := 7) (by kernel_rfl)
              clear hd hf
              (go_simp; try with_reducible rfl)
            refine Mono.hgl_valg (v := ?vmd24) rfl Mono.rr (fun ρ W hd => Mono.guard_val hd (t := 72) (k := 22) (by kernel_rfl) rfl) (fun ρ a W hR hd hf => ?hmd24) ?_
            case hmd24 =>
              have e9 := Mono.init_get hf (t := 9) (by kernel_rfl)
              clear hd hf
              (go_simp; try with_reducible rfl)
            refine Mono.hgl_valg (v := ?vmd25) rfl Mono.rr (fun ρ W hd => Mono.guard_val hd (t := 72) (k := 22) (by kernel_rfl) rfl) (fun ρ a W hR hd hf => ?hmd25) ?_
            case hmd25 =>
              have e74 := Mono.dep_val hd hf (t := 74) (k := 24) (by kernel_rfl) rfl
              have hq := q5
              clear hd hf
              (go_simp; try with_reducible rfl)
            refine Mono.hgl_valg (v := ?vmd26) rfl Mono.rr (fun ρ W hd => Mono.guard_val hd (t := 72) (k := 22) (by kernel_rfl) rfl) (fun ρ a W hR hd hf => ?hmd26) ?_
            case hmd26 =>
              have e73 := Mono.dep_val hd hf (t := 73) (k := 23) (by kernel_rfl) rfl
              have e75 := Mono.dep_val hd hf (t := 75) (k := 25) (by kernel_rfl) rfl
              have hq0 : (0 : Int) ≤ (t : Int) + 1 := by omega
              have hq : (t : Int) + 1 < (s.length : Int) + 1 := by omega
              clear hd hf
              (go_simp; try with_reducible rfl)
            refine Mono.hgl_valg (v := ?vmd27) rfl Mono.rr (fun ρ W hd => Mono.guard_val hd (t := 72) (k := 22) (by kernel_rfl) rfl) (fun ρ a W hR hd hf => ?hmd27) ?_
            case hmd27 =>
              have e76 := Mono.dep_val hd hf (t := 76) (k := 26) (by kernel_rfl) rfl
              have hk := own_b (HNX.out.below hR hnw) (t + 1) (by omega)
              clear hd hf
              (go_simp; try with_reducible rfl)
            refine Mono.hgl_valg (v := ?vmd28) rfl Mono.rr (fun ρ W hd => Mono.guard_val hd (t := 56) (k := 6) (by kernel_rfl) rfl) (fun ρ a W hR hd hf => ?hmd28) ?_
            case hmd28 =>
              have e72 := Mono.dep_val hd hf (t := 72) (k := 22) (by kernel_rfl) rfl
              have e77 := Mono.dep_val hd hf (t := 77) (k := 27) (by kernel_rfl) rfl
              clear hd hf
              (go_simp; try with_reducible rfl)
            refine Mono.hgl_val (v := ?vmd29) rfl Mono.rr (fun ρ a W hR hd hf => ?hmd29) ?_
            case hmd29 =>
              have e56 := Mono.dep_val hd hf (t := 56) (k := 6) (by kernel_rfl) rfl
              have e78 := Mono.dep_val hd hf (t := 78) (k := 28) (by kernel_rfl) rfl
              clear hd hf
              (go_simp; try with_reducible rfl)
            refine Mono.hgl_done rfl (by decide) (fun ρ W hR ht => ?_)
            simp only [List.take_succ_cons, List.take_zero, List.drop_succ_cons, List.drop_zero]
            obtain ⟨dmd29, dmd28, dmd27, dmd26, dmd25, dmd24, dmd23, dmd22, dmd21, dmd20, dmd19, dmd18, dmd17, dmd16, dmd15, dmd14, dmd13, dmd12, dmd11, dmd10, dmd9, dmd8, dmd7, dmd6, dmd5, dmd4, dmd3, dmd2, dmd1, dmd0, _⟩ := ht
            simp only [List.length_cons, List.length_nil, Nat.reduceAdd] at dmd0 dmd1 dmd2 dmd3 dmd4 dmd5 dmd6 dmd7 dmd8 dmd9 dmd10 dmd11 dmd12 dmd13 dmd14 dmd15 dmd16 dmd17 dmd18 dmd19 dmd20 dmd21 dmd22 dmd23 dmd24 dmd25 dmd26 dmd27 dmd28 dmd29
            simp only [Mono.putAll, Nat.reduceAdd, dmd0, dmd1, dmd2, dmd3, dmd4, dmd5, dmd6, dmd7, dmd8, dmd9, dmd10, dmd11, dmd12, dmd13, dmd14, dmd15, dmd16, dmd17, dmd18, dmd19, dmd20, dmd21, dmd22, dmd23, dmd24, dmd25, dmd26, dmd27, dmd28, dmd29, Act.put, List.setIfInBounds_toArray, List.set_cons_zero, List.set_cons_succ]
            clear dmd0 dmd1 dmd2 dmd3 dmd4 dmd5 dmd6 dmd7 dmd8 dmd9 dmd10 dmd11 dmd12 dmd13 dmd14 dmd15 dmd16 dmd17 dmd18 dmd19 dmd20 dmd21 dmd22 dmd23 dmd24 dmd25 dmd26 dmd27 dmd28 dmd29
            have hkN := HNX.out.below hR hnw
            have kN := own_b hkN t htn
            have fN := hkN.2
            have hq1 : t < s.length + 1 := by omega
            have hq2 : (t : Int) < (s.length : Int) + 1 := by omega
            go_upto_region 10 with (fail)
            have HNX : Hid (Own (W.setCell ⟨nb, t, none⟩ (.bool (nextM ps s m (t + 1) (t + 1)))) nb (bcells s.length (nextM ps s m t))) := Lib.hid (by
              have h9 := own_bset hkN t (nextM ps s m (t + 1) (t + 1)) htn
              rw [HST.out (nextM ps s m (t + 1) (t + 1)) (HV.out)] at h9
              exact h9)
            have HI := Lib.hid ((HI.out.below hR (by omega)).other (c := nb) (by omega) t (.bool (nextM ps s m (t + 1) (t + 1))))
            have HB := Lib.hid ((HB.out.trans (hR.mono hwi)).setCell (p := ⟨nb, t, none⟩) hwn (.bool (nextM ps s m (t + 1) (t + 1))))
            have hnw : nb < (W.setCell ⟨nb, t, none⟩ (.bool (nextM ps s m (t + 1) (t + 1)))).heap.size := by have := hR.size; simp [World.setCell]; omega
            clear kN fN hkN hR hq1 hq2
            generalize W.setCell ⟨nb, t, none⟩ (.bool (nextM ps s m (t + 1) (t + 1))) = w7 at *
            go_wp2_with (fail)
            go_roundw
            case rel => exact ⟨_, t, rfl, rfl, by omega, hnw, HNX, HI, HB⟩
            case measure => simp [intOf] <;> omega
      | false =>
        by_cases hln : t < s.length
        rotate_left
        · have D3 : Hid (decide ((t : Int) < (s.length : Int)) = false) := Lib.hid (decide_eq_false (by omega))
          have HV : Hid (false = rowM ps s m t) := Lib.hid (by
            have e : t = s.length := by omega
            rw [e]
            rw [row_one_end ps s m p HD.out hmp])
          go_upto_region 13 with (fail)
          clear hmp
          refine Mono.region_tail 24 (by kernel_rfl) (by kernel_rfl) (by kernel_rfl) (by kernel_rfl) ?_
          simp only [List.take_succ_cons, List.take_zero]
          refine Mono.hgl_val (v := ?vsa0) rfl Mono.rr (fun ρ a W hR hd hf => ?hsa0) ?_
          case hsa0 =>
            have e7 := Mono.init_get hf (t := 7) (by kernel_rfl)
            clear hd hf
            (go_simp; try with_reducible rfl)
          refine Mono.hgl_val (v := ?vsa1) rfl Mono.rr (fun ρ a W hR hd hf => ?hsa1) ?_
          case hsa1 =>
            have e9 := Mono.init_get hf (t := 9) (by kernel_rfl)
            clear hd hf
            (go_simp; try with_reducible rfl)
          refine Mono.hgl_val (v := ?vsa2) rfl Mono.rr (fun ρ a W hR hd hf => ?hsa2) ?_
          case hsa2 =>
            have e9 := Mono.init_get hf (t := 9) (by kernel_rfl)
            clear hd hf
            (go_simp; try with_reducible rfl)
          refine Mono.hgl_val (v := ?vsa3) rfl Mono.rr (fun ρ a W hR hd hf => ?hsa3) ?_
          case hsa3 =>
            have e1 := Mono.init_get hf (t := 1) (by kernel_rfl)
            clear hd hf
            (go_simp; try with_reducible rfl)
          refine Mono.hgl_val (v := ?vsa4) rfl Mono.rr (fun ρ a W hR hd hf => ?hsa4) ?_
          case hsa4 =>
            have e84 := Mono.dep_val hd hf (t := 84) (k := 3) (by kernel_rfl) rfl
            clear hd hf
            (go_simp; try with_reducible rfl)
          refine Mono.hgl_val (v := ?vsa5) rfl Mono.rr (fun ρ a W hR hd hf => ?hsa5) ?_
          case hsa5 =>
            have e83 := Mono.dep_val hd hf (t := 83) (k := 2) (by kernel_rfl) rfl
            have e85 := Mono.dep_val hd hf (t := 85) (k := 4) (by kernel_rfl) rfl
            have hd := D3.out
            clear hd hf
            (go_simp; try with_reducible rfl)
          refine Mono.hgl_val (v := ?vsa6) rfl Mono.rr (fun ρ a W hR hd hf => ?hsa6) ?_
          case hsa6 =>
            have e86 := Mono.dep_val hd hf (t := 86) (k := 5) (by kernel_rfl) rfl
            clear hd hf
            (go_simp; try with_reducible rfl)
          refine Mono.hgl_skip rfl (by decide) (fun ρ W hd => Mono.guard_val hd (t := 87) (k := 6) (by kernel_rfl) rfl) ?_
          refine Mono.hgl_skip rfl (by decide) (fun ρ W hd => Mono.guard_val hd (t := 87) (k := 6) (by kernel_rfl) rfl) ?_
          refine Mono.hgl_skip rfl (by decide) (fun ρ W hd => Mono.guard_val hd (t := 87) (k := 6) (by kernel_rfl) rfl) ?_
          refine Mono.hgl_skip rfl (by decide) (fun ρ W hd => Mono.guard_val hd (t := 87) (k := 6) (by kernel_rfl) rfl) ?_
          refine Mono.hgl_skip rfl (by decide) (fun ρ W hd => Mono.guard_val hd (t := 87) (k := 6) (by kernel_rfl) rfl) ?_
          refine Mono.hgl_skip rfl (by decide) (fun ρ W hd => Mono.guard_val hd (t := 87) (k := 6) (by kernel_rfl) rfl) ?_
          refine Mono.hgl_skip rfl (by decide) (fun ρ W hd => Mono.guard_val hd (t := 87) (k := 6) (by kernel_rfl) rfl) ?_
          refine Mono.hgl_skip rfl (by decide) (fun ρ W hd => Mono.guard_val hd (t := 87) (k := 6) (by kernel_rfl) rfl) ?_
          refine Mono.hgl_skip rfl (by decide) (fun ρ W hd => Mono.guard_val hd (t := 87) (k := 6) (by kernel_rfl) rfl) ?_
          refine Mono.hgl_val (v := ?vsa16) rfl Mono.rr (fun ρ a W hR hd hf => ?hsa16) ?_
          case hsa16 =>
            have e87 := Mono.dep_val hd hf (t := 87) (k := 6) (by kernel_rfl) rfl
            have e96 := Mono.dep_val hd hf (t := 96) (k := 15) (by kernel_rfl) rfl
            clear hd hf
            (go_simp; try with_reducible rfl)
          refine Mono.hgl_val (v := ?vsa17) rfl Mono.rr (fun ρ a W hR hd hf => ?hsa17) ?_
          case hsa17 =>
            have e97 := Mono.dep_val hd hf (t := 97) (k := 16) (by kernel_rfl) rfl
            clear hd hf
            (go_simp; try with_reducible rfl)
          refine Mono.hgl_skip rfl (by decide) (fun ρ W hd => Mono.guard_val hd (t := 98) (k := 17) (by kernel_rfl) rfl) ?_
          refine Mono.hgl_skip rfl (by decide) (fun ρ W hd => Mono.guard_val hd (t := 98) (k := 17) (by kernel_rfl) rfl) ?_
          refine Mono.hgl_skip rfl (by decide) (fun ρ W hd => Mono.guard_val hd (t := 98) (k := 17) (by kernel_rfl) rfl) ?_
          refine Mono.hgl_skip rfl (by decide) (fun ρ W hd => Mono.guard_val hd (t := 98) (k := 17) (by kernel_rfl) rfl) ?_
          refine Mono.hgl_skip rfl (by decide) (fun ρ W hd => Mono.guard_val hd (t := 98) (k := 17) (by kernel_rfl) rfl) ?_
          refine Mono.hgl_val (v := ?vsa23) rfl Mono.rr (fun ρ a W hR hd hf => ?hsa23) ?_
          case hsa23 =>
            have e98 := Mono.dep_val hd hf (t := 98) (k := 17) (by kernel_rfl) rfl
            have e103 := Mono.dep_val hd hf (t := 103) (k := 22) (by kernel_rfl) rfl
            clear hd hf
            (go_simp; try with_reducible rfl)
          refine Mono.hgl_done rfl (by decide) (fun ρ W hR ht => ?_)
          simp only [List.take_succ_cons, List.take_zero, List.drop_succ_cons, List.drop_zero]
          obtain ⟨dsa23, dsa22, dsa21, dsa20, dsa19, dsa18, dsa17, dsa16, dsa15, dsa14, dsa13, dsa12, dsa11, dsa10, dsa9, dsa8, dsa7, dsa6, dsa5, dsa4, dsa3, dsa2, dsa1, dsa0, _⟩ := ht
          simp only [List.length_cons, List.length_nil, Nat.reduceAdd] at dsa0 dsa1 dsa2 dsa3 dsa4 dsa5 dsa6 dsa7 dsa8 dsa9 dsa10 dsa11 dsa12 dsa13 dsa14 dsa15 dsa16 dsa17 dsa18 dsa19 dsa20 dsa21 dsa22 dsa23
          simp only [Mono.putAll, Nat.reduceAdd, dsa0, dsa1, dsa2, dsa3, dsa4, dsa5, dsa6, dsa7, dsa8, dsa9, dsa10, dsa11, dsa12, dsa13, dsa14, dsa15, dsa16, dsa17, dsa18, dsa19, dsa20, dsa21, dsa22, dsa23, Act.put, List.setIfInBounds_toArray, List.set_cons_zero, List.set_cons_succ]
          clear dsa0 dsa1 dsa2 dsa3 dsa4 dsa5 dsa6 dsa7 dsa8 dsa9 dsa10 dsa11 dsa12 dsa13 dsa14 dsa15 dsa16 dsa17 dsa18 dsa19 dsa20 dsa21 dsa22 dsa23
          have hkN := HNX.out.below hR hnw
          have kN := own_b hkN t htn
          have fN := hkN.2
          have hq1 : t < s.length + 1 := by omega
          have hq2 : (t : Int) < (s.length : Int) + 1 := by omega
          go_upto_region 10 with (fail)
          have HNX : Hid (Own (W.setCell ⟨nb, t, none⟩ (.bool false)) nb (bcells s.length (nextM ps s m t))) := Lib.hid (by
            have h9 := own_bset hkN t false htn
            rw [HST.out false (HV.out)] at h9
            exact h9)
          have HI := Lib.hid ((HI.out.below hR (by omega)).other (c := nb) (by omega) t (.bool false))
          have HB := Lib.hid ((HB.out.trans (hR.mono hwi)).setCell (p := ⟨nb, t, none⟩) hwn (.bool false))
          have hnw : nb < (W.setCell ⟨nb, t, none⟩ (.bool false)).heap.size := by have := hR.size; simp [World.setCell]; omega
          clear kN fN hkN hR hq1 hq2
          generalize W.setCell ⟨nb, t, none⟩ (.bool false) = w7 at *
          go_wp2_with (fail)
          go_roundw
          case rel => exact ⟨_, t, rfl, rfl, by omega, hnw, HNX, HI, HB⟩
          case measure => simp [intOf] <;> omega
        have D3 : Hid (decide ((t : Int) < (s.length : Int)) = true) := Lib.hid (decide_eq_true (by omega))
        have hs0 : 0 < s.length := by omega
        obtain ⟨sb, so, rfl, _⟩ := sl_cells (HSl.out wi HB.out) hs0
        have HSC : Hid (∀ W, Below w.heap.size w W → W.cell? ⟨sb, so + t, none⟩ = some (.int .i64 (s.getD t 0))) := Lib.hid (fun W hW => sl_same (HSl.out W hW) hs0 _ _ (by unfold icells; rw [List.getElem?_map, sg_get s t hln]; rfl))
        have HRM := Lib.hid (row_one ps s m t p HD.out hmp hln)
        go_upto_region 13 with (fail)
        clear hmp
        generalize s.getD t 0 = c at *
        cases htc : takes p c with
        | false =>
          have HTQ := Lib.hid (fun (W : World) (hW : Below wi.heap.size wi W) => HTK.out W c hW)
          rw [htc] at HTQ
          have HV : Hid (false = rowM ps s m t) := Lib.hid (by rw [HRM.out, htc]; rfl)
          clear htc
          refine Mono.region_tail 24 (by kernel_rfl) (by kernel_rfl) (by kernel_rfl) (by kernel_rfl) ?_
          simp only [List.take_succ_cons, List.take_zero]
          refine Mono.hgl_val (v := ?vsb0) rfl Mono.rr (fun ρ a W hR hd hf => ?hsb0) ?_
          case hsb0 =>
            have e7 := Mono.init_get hf (t := 7) (by kernel_rfl)
            clear hd hf
            (go_simp; try with_reducible rfl)
          refine Mono.hgl_val (v := ?vsb1) rfl Mono.rr (fun ρ a W hR hd hf => ?hsb1) ?_
          case hsb1 =>
            have e9 := Mono.init_get hf (t := 9) (by kernel_rfl)
            clear hd hf
            (go_simp; try with_reducible rfl)
          refine Mono.hgl_val (v := ?vsb2) rfl Mono.rr (fun ρ a W hR hd hf => ?hsb2) ?_
          case hsb2 =>
            have e9 := Mono.init_get hf (t := 9) (by kernel_rfl)
            clear hd hf
            (go_simp; try with_reducible rfl)
          refine Mono.hgl_val (v := ?vsb3) rfl Mono.rr (fun ρ a W hR hd hf => ?hsb3) ?_
          case hsb3 =>
            have e1 := Mono.init_get hf (t := 1) (by kernel_rfl)
            clear hd hf
            (go_simp; try with_reducible rfl)
          refine Mono.hgl_val (v := ?vsb4) rfl Mono.rr (fun ρ a W hR hd hf => ?hsb4) ?_
          case hsb4 =>
            have e84 := Mono.dep_val hd hf (t := 84) (k := 3) (by kernel_rfl) rfl
            clear hd hf
            (go_simp; try with_reducible rfl)
          refine Mono.hgl_val (v := ?vsb5) rfl Mono.rr (fun ρ a W hR hd hf => ?hsb5) ?_
          case hsb5 =>
            have e83 := Mono.dep_val hd hf (t := 83) (k := 2) (by kernel_rfl) rfl
            have e85 := Mono.dep_val hd hf (t := 85) (k := 4) (by kernel_rfl) rfl
            have hd := D3.out
            clear hd hf
            (go_simp; try with_reducible rfl)
          refine Mono.hgl_val (v := ?vsb6) rfl Mono.rr (fun ρ a W hR hd hf => ?hsb6) ?_
          case hsb6 =>
            have e86 := Mono.dep_val hd hf (t := 86) (k := 5) (by kernel_rfl) rfl
            clear hd hf
            (go_simp; try with_reducible rfl)
          refine Mono.hgl_valg (v := ?vsb7) rfl Mono.rr (fun ρ W hd => Mono.guard_val hd (t := 87) (k := 6) (by kernel_rfl) rfl) (fun ρ a W hR hd hf => ?hsb7) ?_
          case hsb7 =>
            have e0 := Mono.init_get hf (t := 0) (by kernel_rfl)
            clear hd hf
            (go_simp; try with_reducible rfl)
          refine Mono.hgl_valg (v := ?vsb8) rfl Mono.rr (fun ρ W hd => Mono.guard_val hd (t := 87) (k := 6) (by kernel_rfl) rfl) (fun ρ a W hR hd hf => ?hsb8) ?_
          case hsb8 =>
            have e6 := Mono.init_get hf (t := 6) (by kernel_rfl)
            clear hd hf
            (go_simp; try with_reducible rfl)
          refine Mono.hgl_valg (v := ?vsb9) rfl Mono.rr (fun ρ W hd => Mono.guard_val hd (t := 87) (k := 6) (by kernel_rfl) rfl) (fun ρ a W hR hd hf => ?hsb9) ?_
          case hsb9 =>
            have e88 := Mono.dep_val hd hf (t := 88) (k := 7) (by kernel_rfl) rfl
            have e89 := Mono.dep_val hd hf (t := 89) (k := 8) (by kernel_rfl) rfl
            have hq : (m : Int) < (ps.length : Int) := by omega
            clear hd hf
            (go_simp; try with_reducible rfl)
          refine Mono.hgl_valg (v := ?vsb10) rfl Mono.rr (fun ρ W hd => Mono.guard_val hd (t := 87) (k := 6) (by kernel_rfl) rfl) (fun ρ a W hR hd hf => ?hsb10) ?_
          case hsb10 =>
            have e90 := Mono.dep_val hd hf (t := 90) (k := 9) (by kernel_rfl) rfl
            have hk0 := HK0.out W (HB.out.trans (hR.mono hwi))
            have hk1 := HK1.out W (HB.out.trans (hR.mono hwi))
            have hk2 := HK2.out W (HB.out.trans (hR.mono hwi))
            have hk3 := HK3.out W (HB.out.trans (hR.mono hwi))
            clear hd hf
            (go_simp; try with_reducible rfl)
          refine Mono.hgl_valg (v := ?vsb11) rfl Mono.rr (fun ρ W hd => Mono.guard_val hd (t := 87) (k := 6) (by kernel_rfl) rfl) (fun ρ a W hR hd hf => ?hsb11) ?_
          case hsb11 =>
            have e1 := Mono.init_get hf (t := 1) (by kernel_rfl)
            clear hd hf
            (go_simp; try with_reducible rfl)
          refine Mono.hgl_valg (v := ?vsb12) rfl Mono.rr (fun ρ W hd => Mono.guard_val hd (t := 87) (k := 6) (by kernel_rfl) rfl) (fun ρ a W hR hd hf => ?hsb12) ?_
          case hsb12 =>
            have e9 := Mono.init_get hf (t := 9) (by kernel_rfl)
            clear hd hf
            (go_simp; try with_reducible rfl)
          refine Mono.hgl_valg (v := ?vsb13) rfl Mono.rr (fun ρ W hd => Mono.guard_val hd (t := 87) (k := 6) (by kernel_rfl) rfl) (fun ρ a W hR hd hf => ?hsb13) ?_
          case hsb13 =>
            have e92 := Mono.dep_val hd hf (t := 92) (k := 11) (by kernel_rfl) rfl
            have e93 := Mono.dep_val hd hf (t := 93) (k := 12) (by kernel_rfl) rfl
            have hq : (t : Int) < (s.length : Int) := by omega
            clear hd hf
            (go_simp; try with_reducible rfl)
          refine Mono.hgl_valg (v := ?vsb14) rfl Mono.rr (fun ρ W hd => Mono.guard_val hd (t := 87) (k := 6) (by kernel_rfl) rfl) (fun ρ a W hR hd hf => ?hsb14) ?_
          case hsb14 =>
            have e94 := Mono.dep_val hd hf (t := 94) (k := 13) (by kernel_rfl) rfl
            have hk := HSC.out W (HB.out.trans (hR.mono hwi))
            clear hd hf
            (go_simp; try with_reducible rfl)
          refine Mono.hgl_callg (fun x _ => x = .bool false) rfl Mono.rr (fun _ _ _ h _ => h) (fun ρ W hd => Mono.guard_val hd (t := 87) (k := 6) (by kernel_rfl) rfl) (fun ρ a W hR hd hf => ?hsb15) ?_
          case hsb15 =>
            have e91 := Mono.dep_val hd hf (t := 91) (k := 10) (by kernel_rfl) rfl
            have e95 := Mono.dep_val hd hf (t := 95) (k := 14) (by kernel_rfl) rfl
            clear hd hf
            refine ⟨_, _, by go_simp; first | rfl | exact ⟨rfl, rfl⟩, ?_⟩
            exact (HTQ.out W hR).mono (fun e W' ⟨he, hb⟩ => ⟨_, he, hb, rfl⟩)
          refine Mono.hgl_val (v := ?vsb16) rfl Mono.rr (fun ρ a W hR hd hf => ?hsb16) ?_
          case hsb16 =>
            have e87 := Mono.dep_val hd hf (t := 87) (k := 6) (by kernel_rfl) rfl
            have e96 := Mono.dep_val hd hf (t := 96) (k := 15) (by kernel_rfl) rfl
            clear hd hf
            (go_simp; try with_reducible rfl)
          refine Mono.hgl_val (v := ?vsb17) rfl Mono.rr (fun ρ a W hR hd hf => ?hsb17) ?_
          case hsb17 =>
            have e97 := Mono.dep_val hd hf (t := 97) (k := 16) (by kernel_rfl) rfl
            clear hd hf
            (go_simp; try with_reducible rfl)
          refine Mono.hgl_skip rfl (by decide) (fun ρ W hd => Mono.guard_val hd (t := 98) (k := 17) (by kernel_rfl) rfl) ?_
          refine Mono.hgl_skip rfl (by decide) (fun ρ W hd => Mono.guard_val hd (t := 98) (k := 17) (by kernel_rfl) rfl) ?_
          refine Mono.hgl_skip rfl (by decide) (fun ρ W hd => Mono.guard_val hd (t := 98) (k := 17) (by kernel_rfl) rfl) ?_
          refine Mono.hgl_skip rfl (by decide) (fun ρ W hd => Mono.guard_val hd (t := 98) (k := 17) (by kernel_rfl) rfl) ?_
          refine Mono.hgl_skip rfl (by decide) (fun ρ W hd => Mono.guard_val hd (t := 98) (k := 17) (by kernel_rfl) rfl) ?_
          refine Mono.hgl_val (v := ?vsb23) rfl Mono.rr (fun ρ a W hR hd hf => ?hsb23) ?_
          case hsb23 =>
            have e98 := Mono.dep_val hd hf (t := 98) (k := 17) (by kernel_rfl) rfl
            have e103 := Mono.dep_val hd hf (t := 103) (k := 22) (by kernel_rfl) rfl
            clear hd hf
            (go_simp; try with_reducible rfl)
          refine Mono.hgl_done rfl (by decide) (fun ρ W hR ht => ?_)
          simp only [List.take_succ_cons, List.take_zero, List.drop_succ_cons, List.drop_zero]
          obtain ⟨dsb23, dsb22, dsb21, dsb20, dsb19, dsb18, dsb17, dsb16, dsb15, dsb14, dsb13, dsb12, dsb11, dsb10, dsb9, dsb8, dsb7, dsb6, dsb5, dsb4, dsb3, dsb2, dsb1, dsb0, _⟩ := ht
          simp only [List.length_cons, List.length_nil, Nat.reduceAdd] at dsb0 dsb1 dsb2 dsb3 dsb4 dsb5 dsb6 dsb7 dsb8 dsb9 dsb10 dsb11 dsb12 dsb13 dsb14 dsb15 dsb16 dsb17 dsb18 dsb19 dsb20 dsb21 dsb22 dsb23
          simp only [Mono.putAll, Nat.reduceAdd, dsb0, dsb1, dsb2, dsb3, dsb4, dsb5, dsb6, dsb7, dsb8, dsb9, dsb10, dsb11, dsb12, dsb13, dsb14, dsb15, dsb16, dsb17, dsb18, dsb19, dsb20, dsb21, dsb22, dsb23, Act.put, List.setIfInBounds_toArray, List.set_cons_zero, List.set_cons_succ]
          clear dsb0 dsb1 dsb2 dsb3 dsb4 dsb5 dsb6 dsb7 dsb8 dsb9 dsb10 dsb11 dsb12 dsb13 dsb14 dsb15 dsb16 dsb17 dsb18 dsb19 dsb20 dsb21 dsb22 dsb23
          have hkN := HNX.out.below hR hnw
          have kN := own_b hkN t htn
          have fN := hkN.2
          have hq1 : t < s.length + 1 := by omega
          have hq2 : (t : Int) < (s.length : Int) + 1 := by omega
          go_upto_region 10 with (fail)
          have HNX : Hid (Own (W.setCell ⟨nb, t, none⟩ (.bool false)) nb (bcells s.length (nextM ps s m t))) := Lib.hid (by
            have h9 := own_bset hkN t false htn
            rw [HST.out false (HV.out)] at h9
            exact h9)
          have HI := Lib.hid ((HI.out.below hR (by omega)).other (c := nb) (by omega) t (.bool false))
          have HB := Lib.hid ((HB.out.trans (hR.mono hwi)).setCell (p := ⟨nb, t, none⟩) hwn (.bool false))
          have hnw : nb < (W.setCell ⟨nb, t, none⟩ (.bool false)).heap.size := by have := hR.size; simp [World.setCell]; omega
          clear kN fN hkN hR hq1 hq2
          generalize W.setCell ⟨nb, t, none⟩ (.bool false) = w7 at *
          go_wp2_with (fail)
          go_roundw
          case rel => exact ⟨_, t, rfl, rfl, by omega, hnw, HNX, HI, HB⟩
          case measure => simp [intOf] <;> omega
        | true =>
          have HTQ := Lib.hid (fun (W : World) (hW : Below wi.heap.size wi W) => HTK.out W c hW)
          rw [htc] at HTQ
          have HV : Hid (rowM ps s (m + 1) (t + 1) = rowM ps s m t) := Lib.hid (by rw [HRM.out, htc]; rfl)
          clear htc
          refine Mono.region_tail 24 (by kernel_rfl) (by kernel_rfl) (by kernel_rfl) (by kernel_rfl) ?_
          simp only [List.take_succ_cons, List.take_zero]
          refine Mono.hgl_val (v := ?vsc0) rfl Mono.rr (fun ρ a W hR hd hf => ?hsc0) ?_
          case hsc0 =>
            have e7 := Mono.init_get hf (t := 7) (by kernel_rfl)
            clear hd hf
            (go_simp; try with_reducible rfl)
          refine Mono.hgl_val (v := ?vsc1) rfl Mono.rr (fun ρ a W hR hd hf => ?hsc1) ?_
          case hsc1 =>
            have e9 := Mono.init_get hf (t := 9) (by kernel_rfl)
            clear hd hf
            (go_simp; try with_reducible rfl)
          refine Mono.hgl_val (v := ?vsc2) rfl Mono.rr (fun ρ a W hR hd hf => ?hsc2) ?_
          case hsc2 =>
            have e9 := Mono.init_get hf (t := 9) (by kernel_rfl)
            clear hd hf
            (go_simp; try with_reducible rfl)
          refine Mono.hgl_val (v := ?vsc3) rfl Mono.rr (fun ρ a W hR hd hf => ?hsc3) ?_
          case hsc3 =>
            have e1 := Mono.init_get hf (t := 1) (by kernel_rfl)
            clear hd hf
            (go_simp; try with_reducible rfl)
          refine Mono.hgl_val (v := ?vsc4) rfl Mono.rr (fun ρ a W hR hd hf => ?hsc4) ?_
          case hsc4 =>
            have e84 := Mono.dep_val hd hf (t := 84) (k := 3) (by kernel_rfl) rfl
            clear hd hf
            (go_simp; try with_reducible rfl)
          refine Mono.hgl_val (v := ?vsc5) rfl Mono.rr (fun ρ a W hR hd hf => ?hsc5) ?_
          case hsc5 =>
            have e83 := Mono.dep_val hd hf (t := 83) (k := 2) (by kernel_rfl) rfl
            have e85 := Mono.dep_val hd hf (t := 85) (k := 4) (by kernel_rfl) rfl
            have hd := D3.out
            clear hd hf
            (go_simp; try with_reducible rfl)
          refine Mono.hgl_val (v := ?vsc6) rfl Mono.rr (fun ρ a W hR hd hf => ?hsc6) ?_
          case hsc6 =>
            have e86 := Mono.dep_val hd hf (t := 86) (k := 5) (by kernel_rfl) rfl
            clear hd hf
            (go_simp; try with_reducible rfl)
          refine Mono.hgl_valg (v := ?vsc7) rfl Mono.rr (fun ρ W hd => Mono.guard_val hd (t := 87) (k := 6) (by kernel_rfl) rfl) (fun ρ a W hR hd hf => ?hsc7) ?_
          case hsc7 =>
            have e0 := Mono.init_get hf (t := 0) (by kernel_rfl)
            clear hd hf
            (go_simp; try with_reducible rfl)
          refine Mono.hgl_valg (v := ?vsc8) rfl Mono.rr (fun ρ W hd => Mono.guard_val hd (t := 87) (k := 6) (by kernel_rfl) rfl) (fun ρ a W hR hd hf => ?hsc8) ?_
          case hsc8 =>
            have e6 := Mono.init_get hf (t := 6) (by kernel_rfl)
            clear hd hf
            (go_simp; try with_reducible rfl)
          refine Mono.hgl_valg (v := ?vsc9) rfl Mono.rr (fun ρ W hd => Mono.guard_val hd (t := 87) (k := 6) (by kernel_rfl) rfl) (fun ρ a W hR hd hf => ?hsc9) ?_
          case hsc9 =>
            have e88 := Mono.dep_val hd hf (t := 88) (k := 7) (by kernel_rfl) rfl
            have e89 := Mono.dep_val hd hf (t := 89) (k := 8) (by kernel_rfl) rfl
            have hq : (m : Int) < (ps.length : Int) := by omega
            clear hd hf
            (go_simp; try with_reducible rfl)
          refine Mono.hgl_valg (v := ?vsc10) rfl Mono.rr (fun ρ W hd => Mono.guard_val hd (t := 87) (k := 6) (by kernel_rfl) rfl) (fun ρ a W hR hd hf => ?hsc10) ?_
          case hsc10 =>
            have e90 := Mono.dep_val hd hf (t := 90) (k := 9) (by kernel_rfl) rfl
            have hk0 := HK0.out W (HB.out.trans (hR.mono hwi))
            have hk1 := HK1.out W (HB.out.trans (hR.mono hwi))
            have hk2 := HK2.out W (HB.out.trans (hR.mono hwi))
            have hk3 := HK3.out W (HB.out.trans (hR.mono hwi))
            clear hd hf
            (go_simp; try with_reducible rfl)
          refine Mono.hgl_valg (v := ?vsc11) rfl Mono.rr (fun ρ W hd => Mono.guard_val hd (t := 87) (k := 6) (by kernel_rfl) rfl) (fun ρ a W hR hd hf => ?hsc11) ?_
          case hsc11 =>
            have e1 := Mono.init_get hf (t := 1) (by kernel_rfl)
            clear hd hf
            (go_simp; try with_reducible rfl)
          refine Mono.hgl_valg (v := ?vsc12) rfl Mono.rr (fun ρ W hd => Mono.guard_val hd (t := 87) (k := 6) (by kernel_rfl) rfl) (fun ρ a W hR hd hf => ?hsc12) ?_
          case hsc12 =>
            have e9 := Mono.init_get hf (t := 9) (by kernel_rfl)
            clear hd hf
            (go_simp; try with_reducible rfl)
          refine Mono.hgl_valg (v := ?vsc13) rfl Mono.rr (fun ρ W hd => Mono.guard_val hd (t := 87) (k := 6) (by kernel_rfl) rfl) (fun ρ a W hR hd hf => ?hsc13) ?_
          case hsc13 =>
            have e92 := Mono.dep_val hd hf (t := 92) (k := 11) (by kernel_rfl) rfl
            have e93 := Mono.dep_val hd hf (t := 93) (k := 12) (by kernel_rfl) rfl
            have hq : (t : Int) < (s.length : Int) := by omega
            clear hd hf
            (go_simp; try with_reducible rfl)
          refine Mono.hgl_valg (v := ?vsc14) rfl Mono.rr (fun ρ W hd => Mono.guard_val hd (t := 87) (k := 6) (by kernel_rfl) rfl) (fun ρ a W hR hd hf => ?hsc14) ?_
          case hsc14 =>
            have e94 := Mono.dep_val hd hf (t := 94) (k := 13) (by kernel_rfl) rfl
            have hk := HSC.out W (HB.out.trans (hR.mono hwi))
            clear hd hf
            (go_simp; try with_reducible rfl)
          refine Mono.hgl_callg (fun x _ => x = .bool true) rfl Mono.rr (fun _ _ _ h _ => h) (fun ρ W hd => Mono.guard_val hd (t := 87) (k := 6) (by kernel_rfl) rfl) (fun ρ a W hR hd hf => ?hsc15) ?_
          case hsc15 =>
            have e91 := Mono.dep_val hd hf (t := 91) (k := 10) (by kernel_rfl) rfl
            have e95 := Mono.dep_val hd hf (t := 95) (k := 14) (by kernel_rfl) rfl
            clear hd hf
            refine ⟨_, _, by go_simp; first | rfl | exact ⟨rfl, rfl⟩, ?_⟩
            exact (HTQ.out W hR).mono (fun e W' ⟨he, hb⟩ => ⟨_, he, hb, rfl⟩)
          refine Mono.hgl_val (v := ?vsc16) rfl Mono.rr (fun ρ a W hR hd hf => ?hsc16) ?_
          case hsc16 =>
            have e87 := Mono.dep_val hd hf (t := 87) (k := 6) (by kernel_rfl) rfl
            have e96 := Mono.dep_val hd hf (t := 96) (k := 15) (by kernel_rfl) rfl
            clear hd hf
            (go_simp; try with_reducible rfl)
          refine Mono.hgl_val (v := ?vsc17) rfl Mono.rr (fun ρ a W hR hd hf => ?hsc17) ?_
          case hsc17 =>
            have e97 := Mono.dep_val hd hf (t := 97) (k := 16) (by kernel_rfl) rfl
            clear hd hf
            (go_simp; try with_reducible rfl)
          refine Mono.hgl_valg (v := ?vsc18) rfl Mono.rr (fun ρ W hd => Mono.guard_val hd (t := 98) (k := 17) (by kernel_rfl) rfl) (fun ρ a W hR hd hf => ?hsc18) ?_
          case hsc18 =>
            have e5 := Mono.init_get hf (t := 5) (by kernel_rfl)
            clear hd hf
            (go_simp; try with_reducible rfl)
          refine Mono.hgl_valg (v := ?vsc19) rfl Mono.rr (fun ρ W hd => Mono.guard_val hd (t := 98) (k := 17) (by kernel_rfl) rfl) (fun ρ a W hR hd hf => ?hsc19) ?_
          case hsc19 =>
            have e9 := Mono.init_get hf (t := 9) (by kernel_rfl)
            clear hd hf
            (go_simp; try with_reducible rfl)
          refine Mono.hgl_valg (v := ?vsc20) rfl Mono.rr (fun ρ W hd => Mono.guard_val hd (t := 98) (k := 17) (by kernel_rfl) rfl) (fun ρ a W hR hd hf => ?hsc20) ?_
          case hsc20 =>
            have e100 := Mono.dep_val hd hf (t := 100) (k := 19) (by kernel_rfl) rfl
            have hq := q5
            clear hd hf
            (go_simp; try with_reducible rfl)
          refine Mono.hgl_valg (v := ?vsc21) rfl Mono.rr (fun ρ W hd => Mono.guard_val hd (t := 98) (k := 17) (by kernel_rfl) rfl) (fun ρ a W hR hd hf => ?hsc21) ?_
          case hsc21 =>
            have e99 := Mono.dep_val hd hf (t := 99) (k := 18) (by kernel_rfl) rfl
            have e101 := Mono.dep_val hd hf (t := 101) (k := 20) (by kernel_rfl) rfl
            have hq0 : (0 : Int) ≤ (t : Int) + 1 := by omega
            have hq : (t : Int) + 1 < (s.length : Int) + 1 := by omega
            clear hd hf
            (go_simp; try with_reducible rfl)
          refine Mono.hgl_valg (v := ?vsc22) rfl Mono.rr (fun ρ W hd => Mono.guard_val hd (t := 98) (k := 17) (by kernel_rfl) rfl) (fun ρ a W hR hd hf => ?hsc22) ?_
          case hsc22 =>
            have e102 := Mono.dep_val hd hf (t := 102) (k := 21) (by kernel_rfl) rfl
            have hk := own_b (HI.out.below hR (by omega)) (t + 1) (by omega)
            clear hd hf
            (go_simp; try with_reducible rfl)
          refine Mono.hgl_val (v := ?vsc23) rfl Mono.rr (fun ρ a W hR hd hf => ?hsc23) ?_
          case hsc23 =>
            have e98 := Mono.dep_val hd hf (t := 98) (k := 17) (by kernel_rfl) rfl
            have e103 := Mono.dep_val hd hf (t := 103) (k := 22) (by kernel_rfl) rfl
            clear hd hf
            (go_simp; try with_reducible rfl)
          refine Mono.hgl_done rfl (by decide) (fun ρ W hR ht => ?_)
          simp only [List.take_succ_cons, List.take_zero, List.drop_succ_cons, List.drop_zero]
          obtain ⟨dsc23, dsc22, dsc21, dsc20, dsc19, dsc18, dsc17, dsc16, dsc15, dsc14, dsc13, dsc12, dsc11, dsc10, dsc9, dsc8, dsc7, dsc6, dsc5, dsc4, dsc3, dsc2, dsc1, dsc0, _⟩ := ht
          simp only [List.length_cons, List.length_nil, Nat.reduceAdd] at dsc0 dsc1 dsc2 dsc3 dsc4 dsc5 dsc6 dsc7 dsc8 dsc9 dsc10 dsc11 dsc12 dsc13 dsc14 dsc15 dsc16 dsc17 dsc18 dsc19 dsc20 dsc21 dsc22 dsc23
          simp only [Mono.putAll, Nat.reduceAdd, dsc0, dsc1, dsc2, dsc3, dsc4, dsc5, dsc6, dsc7, dsc8, dsc9, dsc10, dsc11, dsc12, dsc13, dsc14, dsc15, dsc16, dsc17, dsc18, dsc19, dsc20, dsc21, dsc22, dsc23, Act.put, List.setIfInBounds_toArray, List.set_cons_zero, List.set_cons_succ]
          clear dsc0 dsc1 dsc2 dsc3 dsc4 dsc5 dsc6 dsc7 dsc8 dsc9 dsc10 dsc11 dsc12 dsc13 dsc14 dsc15 dsc16 dsc17 dsc18 dsc19 dsc20 dsc21 dsc22 dsc23
          have hkN := HNX.out.below hR hnw
          have kN := own_b hkN t htn
          have fN := hkN.2
          have hq1 : t < s.length + 1 := by omega
          have hq2 : (t : Int) < (s.length : Int) + 1 := by omega
          go_upto_region 10 with (fail)
          have HNX : Hid (Own (W.setCell ⟨nb, t, none⟩ (.bool (rowM ps s (m + 1) (t + 1)))) nb (bcells s.length (nextM ps s m t))) := Lib.hid (by
            have h9 := own_bset hkN t (rowM ps s (m + 1) (t + 1)) htn
            rw [HST.out (rowM ps s (m + 1) (t + 1)) (HV.out)] at h9
            exact h9)
          have HI := Lib.hid ((HI.out.below hR (by omega)).other (c := nb) (by omega) t (.bool (rowM ps s (m + 1) (t + 1))))
          have HB := Lib.hid ((HB.out.trans (hR.mono hwi)).setCell (p := ⟨nb, t, none⟩) hwn (.bool (rowM ps s (m + 1) (t + 1))))
          have hnw : nb < (W.setCell ⟨nb, t, none⟩ (.bool (rowM ps s (m + 1) (t + 1)))).heap.size := by have := hR.size; simp [World.setCell]; omega
          clear kN fN hkN hR hq1 hq2
          generalize W.setCell ⟨nb, t, none⟩ (.bool (rowM ps s (m + 1) (t + 1))) = w7 at *
          go_wp2_with (fail)
          go_roundw
          case rel => exact ⟨_, t, rfl, rfl, by omega, hnw, HNX, HI, HB⟩
          case measure => simp [intOf] <;> omega
end Go.Proofs.YtlmdpmfahfgjkaaDoor
