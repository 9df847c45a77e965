/- GlobWider: plain law and walk. -/
import Derived.Test.YtlmdpmfahfgjkaaDoorGlO
import Derived.Test.YtlmdpmfahfgjkaaDoorGlR
namespace Go.Proofs.YtlmdpmfahfgjkaaDoor
set_option maxRecDepth 100000
set_option linter.unusedVariables false
set_option linter.unusedSimpArgs false
open Go.RowKit
/-- A part, or ** in the place of *. -/
def WP (p q : PartV) : Prop := q = p ∨ (p.kind = 3 ∧ q = ⟨4, p.sign, p.rs, p.neg⟩)
def Wd : List PartV → List PartV → Prop
  | [], [] => True
  | p :: ps, q :: qs => WP p q ∧ Wd ps qs
  | _, _ => False
theorem Wd.snoc : ∀ {ps qs : List PartV} {p q : PartV}, Wd ps qs → WP p q → Wd (ps ++ [p]) (qs ++ [q])
  | [], [], _, _, _, h => ⟨h, trivial⟩
  | _ :: _, _ :: _, _, _, h, h2 => ⟨h.1, Wd.snoc h.2 h2⟩
  | [], _ :: _, _, _, h, _ => h.elim
  | _ :: _, [], _, _, h, _ => h.elim
theorem Wd.length : ∀ {ps qs : List PartV}, Wd ps qs → qs.length = ps.length
  | [], [], _ => rfl
  | _ :: _, _ :: _, h => by simp [Wd.length h.2]
  | [], _ :: _, h => h.elim
  | _ :: _, [], h => h.elim
theorem Wd.get : ∀ {ps qs : List PartV} (_ : Wd ps qs) {j : Nat} {q : PartV}, qs[j]? = some q → ∃ p, ps[j]? = some p ∧ WP p q
  | _ :: _, q :: _, h, 0, _, hq => by
    simp only [List.getElem?_cons_zero, Option.some.injEq] at hq
    subst hq
    exact ⟨_, rfl, h.1⟩
  | _ :: ps, _ :: qs, h, j + 1, q, hq => by
    obtain ⟨p, h1, h2⟩ := Wd.get h.2 (j := j) (q := q) (by simpa using hq)
    exact ⟨p, by simpa using h1, h2⟩
  | [], [], _, _, _, hq => by simp at hq
  | [], _ :: _, h, _, _, _ => h.elim
  | _ :: _, [], h, _, _, _ => h.elim
theorem WP.rs {p q : PartV} (h : WP p q) : q.rs = p.rs := by
  rcases h with rfl | ⟨_, rfl⟩ <;> rfl
theorem star_mono {f g : List Int → Bool} {t t' : Int → Bool} (hf : ∀ s, f s = true → g s = true) (ht : ∀ c, t c = true → t' c = true) : ∀ s, star f t s = true → star g t' s = true
  | [], h => hf [] h
  | c :: s, h => by
    rw [star, Bool.or_eq_true, Bool.and_eq_true] at h ⊢
    rcases h with h | ⟨h1, h2⟩
    · exact .inl (hf _ h)
    · exact .inr ⟨ht c h1, star_mono hf ht s h2⟩
theorem single_mono {f g : List Int → Bool} {t : Int → Bool} (hf : ∀ s, f s = true → g s = true) : ∀ s, single f t s = true → single g t s = true
  | [], h => by cases h
  | c :: s, h => by
    rw [single, Bool.and_eq_true] at h ⊢
    exact ⟨h.1, hf s h.2⟩
theorem M_wide : ∀ {ps qs : List PartV}, Wd ps qs → ∀ s, M ps s = true → M qs s = true
  | [], [], _, _, h => h
  | [], _ :: _, h, _, _ => h.elim
  | _ :: _, [], h, _, _ => h.elim
  | p :: ps, q :: qs, h, s, hm => by
    have ih := M_wide h.2
    rcases h.1 with rfl | ⟨h3, rfl⟩
    · rw [M] at hm ⊢
      by_cases hy : many q = true
      · rw [if_pos hy] at hm ⊢
        exact star_mono ih (fun _ h => h) s hm
      · rw [if_neg hy] at hm ⊢
        exact single_mono ih s hm
    · have m3 : many p = true := by unfold many; rw [h3]; rfl
      rw [M, if_pos m3] at hm
      rw [M, if_pos (by rfl)]
      exact star_mono ih (fun c _ => rfl) s hm
theorem M_deep : ∀ s : List Int, M [⟨4, 0, [], false⟩] s = true
  | [] => rfl
  | c :: s => by
    have := M_deep s
    rw [M, if_pos (by rfl)] at this ⊢
    rw [star, this]
    simp [takes]
theorem mtch_wide {ps qs : List PartV} (h : Wd ps qs) (s : ByteArray) (hm : mtch ps s = true) : mtch qs s = true := by
  unfold mtch at hm ⊢
  cases hs : sg s.data.toList with
  | none => rw [hs] at hm; cases hm
  | some l => rw [hs] at hm; exact M_wide h l hm
theorem mtch_deep (s : ByteArray) : mtch [⟨4, 0, [], false⟩] s = (sg s.data.toList).isSome := by
  unfold mtch
  cases hs : sg s.data.toList with
  | none => rfl
  | some l => exact M_deep l
theorem mtch_none {ps : List PartV} {s : ByteArray} (h : sg s.data.toList = none) : mtch ps s = false := by unfold mtch; rw [h]
set_option maxHeartbeats 8000000 in
theorem wider_walk (ps : List PartV) (v : Value) (s : ByteArray) (a : Int) (w : World) (hA : Amb w) (hm : s.size ≤ 9223372036854775807) (hP : Pat .i32 w w.heap.size v ps) (hps : ps.length ≤ 9223372036854775807) (ha : 0 ≤ a ∧ a ≤ 255) :
    Calls Tryd.prog 4 #[v, .string s, .int .u8 a] w fun e w' => e = .returned (.bool true) ∧ Below w.heap.size w w' := by
  have HW := Lib.hid (gawake w hA)
  have HA := Lib.hid hA
  obtain ⟨vs, g1, g2, g3⟩ := hP
  obtain ⟨av, cv, rfl, hcv⟩ := g3.form
  have HG1 := Lib.hid g1
  have HG2 := Lib.hid g2
  have HG3 := Lib.hid g3
  clear hA g1 g2 g3
  go_enter Tryd.func4, Tryd.ntmps4
  go_wp2_with (fail)
  refine HW.out.mono ?_
  rintro e w1 ⟨rfl, hb⟩
  have HB := Lib.hid hb
  clear hb HW
  by_cases h40 : 40 < ps.length
  · have d1 : decide (40 < ps.length) = true := decide_eq_true h40
    have d2 : decide ((40 : Int) < (ps.length : Int)) = true := decide_eq_true (by omega)
    clear h40
    go_wp2_with (fail)
    go_ret
    exact ⟨by rfl, HB.out⟩
  have d1 : decide (40 < ps.length) = false := decide_eq_false h40
  have d2 : decide ((40 : Int) < (ps.length : Int)) = false := decide_eq_false (by omega)
  by_cases hlong : 200 < s.size
  · have d3 : decide (200 < s.size) = true := decide_eq_true hlong
    have d4 : decide ((200 : Int) < (s.size : Int)) = true := decide_eq_true (by omega)
    clear hlong h40
    go_wp2_with (fail)
    go_ret
    exact ⟨by rfl, HB.out⟩
  have d3 : decide (200 < s.size) = false := decide_eq_false hlong
  have d4 : decide ((200 : Int) < (s.size : Int)) = false := decide_eq_false (by omega)
  go_wp2_with (fail)
  clear d1 d2 d3 d4
  have hz1 : w.heap.size ≤ w1.heap.size := HB.out.size
  go_loopw [7, 8] (fun wv i wr => ∃ (j : Nat) (qs : List PartV), i = .int .i64 j ∧ j ≤ ps.length ∧ Hid (Wd (ps.take j) qs) ∧ Hid (∀ p ∈ ps.take j, p.rs.length ≤ 20) ∧ Hid (Row w.heap.size 35 4 wr wv j (pcells .i32 (vs.take j) qs)) ∧ Hid (Below w.heap.size w wr)) (fun _ i _ => ps.length - (intOf i).toNat)
  case atStart => exact ⟨0, [], rfl, by omega, Lib.hid trivial, Lib.hid (fun p hp => by simp at hp), Lib.hid Row.nil, HB⟩
  case round =>
    clear HB hz1
    obtain ⟨j, qs, rfl, hj, HWd, HRL, HR, HB⟩ := hrel
    obtain ⟨wo, rfl⟩ : ∃ z : World, z = wr := ⟨_, rfl⟩
    obtain ⟨aw, cw, rfl, hcw⟩ := HR.out.form
    by_cases hlt : j < ps.length
    rotate_left
    · have d1 : decide (j < ps.length) = false := decide_eq_false (by omega)
      have d2 : decide ((j : Int) < (ps.length : Int)) = false := decide_eq_false (by omega)
      have e : j = ps.length := by omega
      subst e
      have hwd := HWd.out
      have hrl := HRL.out
      have hrow := HR.out
      rw [List.take_of_length_le (Nat.le_refl _)] at hwd hrl
      rw [List.take_of_length_le (by rw [HG1.out]; exact Nat.le_refl _)] at hrow
      have hql := hwd.length
      have hqr : ∀ q ∈ qs, q.rs.length ≤ 20 := by
        intro q hq
        obtain ⟨i, hi⟩ := List.getElem?_of_mem hq
        obtain ⟨p, hp, hw⟩ := hwd.get hi
        rw [hw.rs]
        exact hrl p (List.mem_of_getElem? hp)
      have hz : w.heap.size ≤ wo.heap.size := HB.out.size
      have hp2 : Pat .i32 wo wo.heap.size (.slice aw ps.length cw) qs := by
        refine ⟨vs, by rw [HG1.out, hql], fun i u q hu hq => ?_, ?_⟩
        · obtain ⟨p, hp, hw⟩ := hwd.get hq
          rw [hw.rs]
          exact ((HG2.out i u p hu hp).below HB.out).mono hz
        · rw [hql]; exact hrow.sl
      have HWQ := Lib.hid hwd
      have HM1 := Lib.hid (fun (W : World) (hW : Below wo.heap.size wo W) => match_any (.slice av ps.length cv) ps w.heap.size s W (HA.out.below (HB.out.trans (hW.mono hz))) (by omega) ⟨vs, HG1.out, fun i u q hu hq => ((HG2.out i u q hu hq).below HB.out).below (hW.mono hz), (HG3.out.below HB.out).below (hW.mono hz)⟩ (by have := hW.size; omega) (by omega) (fun p hp => by have := hrl p hp; omega))
      have HM2 := Lib.hid (fun (W : World) (hW : Below wo.heap.size wo W) => match_any (.slice aw ps.length cw) qs wo.heap.size s W (HA.out.below (HB.out.trans (hW.mono hz))) (by omega) (hp2.below hW) hW.size (by omega) (fun p hp => by have := hqr p hp; omega))
      have HM3 := Lib.hid (fun (W W3 : World) (hW : Below wo.heap.size wo W) (hW3 : Below (W.alloc (.cells #[.int .i64 4, .int .i32 0, .slice none 0 0, .bool false] 35)).heap.size (W.alloc (.cells #[.int .i64 4, .int .i32 0, .slice none 0 0, .bool false] 35)) W3) =>
        match_any (.slice (some ⟨W.heap.size, 0, none⟩) 1 1) [⟨4, 0, [], false⟩] (W.heap.size + 1) s W3 (HA.out.below ((HB.out.trans (hW.mono hz)).trans ((((Below.refl W.heap.size W).alloc (Nat.le_refl _) (.cells #[.int .i64 4, .int .i32 0, .slice none 0 0, .bool false] 35)).trans (hW3.mono (by simp))).mono (by have := hW.size; omega)))) (by omega)
          ⟨[.slice none 0 0], rfl, fun i u q hu hq => by
            cases i with
            | zero =>
              simp only [List.getElem?_cons_zero, Option.some.injEq] at hu hq
              subst hu hq
              exact ⟨rfl, none, 0, rfl, Nat.le_refl _, .inl ⟨rfl, fun _ => rfl⟩⟩
            | succ i => simp at hu, (Sl.new W 4 1 [.int .i64 4, .int .i32 0, .slice none 0 0, .bool false] 35 rfl).below (hW3.mono (by simp))⟩ (by have := hW3.size; simp at this; omega) (by simp) (fun p hp => by simp at hp; subst hp; simp))
      have HSG := Lib.hid (signs_any s wo (by omega))
      have HMD := Lib.hid (mtch_deep s)
      have HMW := Lib.hid (mtch_wide hwd s)
      clear hwd hrl hrow hql hqr hp2 hlt
      go_wp2_with (fail)
      refine HSG.out.mono ?_
      rintro e w2 hq
      unfold Signs_r at hq
      clear d1 d2
      cases hs : sg s.data.toList with
      | none =>
        rw [hs] at hq HMD
        obtain ⟨rfl, hb⟩ := hq
        have HN := Lib.hid (fun ps => mtch_none (ps := ps) hs)
        have b3 : Below wo.heap.size wo (w2.alloc (.cells #[.int .i64 4, .int .i32 0, .slice none 0 0, .bool false] 35)) := hb.alloc hb.size _
        have HK := Lib.hid (fun (W : World) (hW : Below (w2.alloc (.cells #[.int .i64 4, .int .i32 0, .slice none 0 0, .bool false] 35)).heap.size (w2.alloc (.cells #[.int .i64 4, .int .i32 0, .slice none 0 0, .bool false] 35)) W) => b3.trans (hW.mono b3.size))
        have HM3 := Lib.hid (fun (W3 : World) hW3 => HM3.out w2 W3 hb hW3)
        clear b3 hb
        go_upto_region 17 with (fail)
        generalize w2.alloc (.cells #[.int .i64 4, .int .i32 0, .slice none 0 0, .bool false] 35) = w3 at *
        have HB3 := Lib.hid (Below.refl w3.heap.size w3)
        have HC := Lib.hid (HM1.out w3 (HK.out w3 HB3.out))
        rw [HN.out] at HC
        go_wp2_with (fail)
        refine HC.out.mono ?_
        rintro e w4 ⟨rfl, hb⟩
        have HB3 := Lib.hid (HB3.out.trans (hb.mono HB3.out.size))
        clear hb HC
        have HC := Lib.hid (HM3.out w4 HB3.out)
        rw [HN.out] at HC
        go_wp2_with (fail)
        refine HC.out.mono ?_
        rintro e w5 ⟨rfl, hb⟩
        have HB3 := Lib.hid (HB3.out.trans (hb.mono HB3.out.size))
        clear hb HC
        have HC := Lib.hid (HM1.out w5 (HK.out w5 HB3.out))
        rw [HN.out] at HC
        go_wp2_with (fail)
        refine HC.out.mono ?_
        rintro e w6 ⟨rfl, hb⟩
        have HB3 := Lib.hid (HB3.out.trans (hb.mono HB3.out.size))
        clear hb HC
        go_wp2_with (fail)
        go_ret
        exact ⟨by rfl, HB.out.trans ((HK.out _ HB3.out).mono hz)⟩
      | some l =>
        rw [hs] at hq HMD
        obtain ⟨⟨v', rfl, hr⟩, hb⟩ := hq
        obtain ⟨a', c', rfl, hc'⟩ := hr.form
        clear hr
        have b3 : Below wo.heap.size wo (w2.alloc (.cells #[.int .i64 4, .int .i32 0, .slice none 0 0, .bool false] 35)) := hb.alloc hb.size _
        have HK := Lib.hid (fun (W : World) (hW : Below (w2.alloc (.cells #[.int .i64 4, .int .i32 0, .slice none 0 0, .bool false] 35)).heap.size (w2.alloc (.cells #[.int .i64 4, .int .i32 0, .slice none 0 0, .bool false] 35)) W) => b3.trans (hW.mono b3.size))
        have HM3 := Lib.hid (fun (W3 : World) hW3 => HM3.out w2 W3 hb hW3)
        clear b3 hb
        go_upto_region 17 with (fail)
        generalize w2.alloc (.cells #[.int .i64 4, .int .i32 0, .slice none 0 0, .bool false] 35) = w3 at *
        have HB3 := Lib.hid (Below.refl w3.heap.size w3)
        cases h1 : mtch ps s with
        | false =>
          have H1 := Lib.hid h1
          clear h1
          have HC := Lib.hid (HM1.out w3 (HK.out w3 HB3.out))
          rw [H1.out] at HC
          go_wp2_with (fail)
          refine HC.out.mono ?_
          rintro e w4 ⟨rfl, hb⟩
          have HB3 := Lib.hid (HB3.out.trans (hb.mono HB3.out.size))
          clear hb HC
          have HC := Lib.hid (HM3.out w4 HB3.out)
          rw [HMD.out] at HC; simp only [Option.isSome_some] at HC
          go_wp2_with (fail)
          refine HC.out.mono ?_
          rintro e w5 ⟨rfl, hb⟩
          have HB3 := Lib.hid (HB3.out.trans (hb.mono HB3.out.size))
          clear hb HC
          go_wp2_with (fail)
          go_ret
          exact ⟨by rfl, HB.out.trans ((HK.out _ HB3.out).mono hz)⟩
        | true =>
          have H1 := Lib.hid h1
          have H2 := Lib.hid (HMW.out h1)
          clear h1
          have HC := Lib.hid (HM1.out w3 (HK.out w3 HB3.out))
          rw [H1.out] at HC
          go_wp2_with (fail)
          refine HC.out.mono ?_
          rintro e w4 ⟨rfl, hb⟩
          have HB3 := Lib.hid (HB3.out.trans (hb.mono HB3.out.size))
          clear hb HC
          have HC := Lib.hid (HM2.out w4 (HK.out w4 HB3.out))
          rw [H2.out] at HC
          go_wp2_with (fail)
          refine HC.out.mono ?_
          rintro e w5 ⟨rfl, hb⟩
          have HB3 := Lib.hid (HB3.out.trans (hb.mono HB3.out.size))
          clear hb HC
          have HC := Lib.hid (HM3.out w5 HB3.out)
          rw [HMD.out] at HC; simp only [Option.isSome_some] at HC
          go_wp2_with (fail)
          refine HC.out.mono ?_
          rintro e w6 ⟨rfl, hb⟩
          have HB3 := Lib.hid (HB3.out.trans (hb.mono HB3.out.size))
          clear hb HC
          go_wp2_with (fail)
          go_ret
          exact ⟨by rfl, HB.out.trans ((HK.out _ HB3.out).mono hz)⟩
    have d1 : decide (j < ps.length) = true := decide_eq_true hlt
    have d2 : decide ((j : Int) < (ps.length : Int)) = true := decide_eq_true (by omega)
    have q1 : IntKind.i64.wrap ((j : Int) + 1) = (j : Int) + 1 := IntWalk.i64_in _ (by omega)
    obtain ⟨p, hp⟩ : ∃ p, ps[j]? = some p := ⟨_, List.getElem?_eq_getElem hlt⟩
    obtain ⟨ba, off, cap', he, _, _, hk⟩ := (HG3.out.below HB.out).pos (by omega)
    injection he with he1 he2 he3
    subst he1 he3
    obtain ⟨u, gu, c0, c1, c2, c3⟩ := pcells_get .i32 vs ps j p HG1.out hp
    have k0 := hk _ _ c0
    have k1 := hk _ _ c1
    have k2 := hk _ _ c2
    have k3 := hk _ _ c3
    rw [← Nat.add_assoc] at k1 k2 k3
    obtain ⟨au, cu, rfl, hcu⟩ := (HG2.out j u p gu hp).form
    have hvs : vs.take (j + 1) = vs.take j ++ [.slice au p.rs.length cu] := by
      obtain ⟨hl, e⟩ := List.getElem?_eq_some_iff.1 gu
      rw [List.take_succ_eq_append_getElem hl, e]
    have hpt : ps.take (j + 1) = ps.take j ++ [p] := by
      obtain ⟨hl, e⟩ := List.getElem?_eq_some_iff.1 hp
      rw [List.take_succ_eq_append_getElem hl, e]
    have HVS := Lib.hid hvs
    have HPT := Lib.hid hpt
    have hAx := (Below.refl wo.heap.size wo).alloc (Nat.le_refl _) (.cells #[.int .i64 p.kind, .int .i32 p.sign, .slice au p.rs.length cu, .bool p.neg] 35)
    have hzo : w.heap.size ≤ wo.heap.size := HB.out.size
    have HX := Lib.hid (Own.new_at wo [.int .i64 p.kind, .int .i32 p.sign, .slice au p.rs.length cu, .bool p.neg] 35 wo.heap.size rfl)
    have HB := Lib.hid (HB.out.trans (hAx.mono (by omega)))
    have HR0 := Lib.hid (fun (W : World) (hW : Below wo.heap.size wo W) => HR.out.below hW)
    have HAx := Lib.hid hAx
    have HR := Lib.hid (HR.out.below hAx)
    have hz5 : wo.heap.size + 1 = (wo.alloc (.cells #[.int .i64 p.kind, .int .i32 p.sign, .slice au p.rs.length cu, .bool p.neg] 35)).heap.size := by simp
    clear hAx hvs hpt hk c0 c1 c2 c3 gu
    go_upto_region 10 with (fail)
    generalize wo.alloc (.cells #[.int .i64 p.kind, .int .i32 p.sign, .slice au p.rs.length cu, .bool p.neg] 35) = w5 at *
    generalize wo.heap.size = bx at *
    clear k0 k1 k2 k3 d1 d2
    have y0 := HX.out.1 0 _ rfl
    have y1 := HX.out.1 1 _ rfl
    have y2 := HX.out.1 2 _ rfl
    have y3 := HX.out.1 3 _ rfl
    by_cases h20 : 20 < p.rs.length
    · have d1 : decide (20 < p.rs.length) = true := decide_eq_true h20
      have d2 : decide ((20 : Int) < (p.rs.length : Int)) = true := decide_eq_true (by omega)
      clear h20
      go_wp2_with (fail)
      go_ret
      exact ⟨by rfl, HB.out⟩
    have d1 : decide (20 < p.rs.length) = false := decide_eq_false h20
    have d2 : decide ((20 : Int) < (p.rs.length : Int)) = false := decide_eq_false (by omega)
    go_upto_region 12 with (fail)
    go_cut [48] (fun z wx => ∃ g : Bool, z = .bool g ∧ (g = true → p.kind = 3) ∧ w5 = wx)
    case first =>
      by_cases h3 : p.kind = 3
      · have t3 : (p.kind == 3) = true := by simpa using h3
        go_wp2_with (fail)
        all_goals
          go_meet
          exact ⟨_, rfl, fun _ => h3, rfl⟩
      · have t3 : (p.kind == 3) = false := by simpa using h3
        go_wp2_with (fail)
        go_meet
        exact ⟨_, rfl, fun h => (by cases h), rfl⟩
    case rest =>
    obtain ⟨g, rfl, hg, rfl⟩ := hcut
    obtain ⟨w6, rfl⟩ : ∃ z : World, z = w5 := ⟨_, rfl⟩
    clear d1 d2
    cases g with
    | false =>
      clear hg y0 y1 y2 y3
      have HA2 := (Below.refl w6.heap.size w6).alloc (Nat.le_refl _) (.cells #[.int .i64 p.kind, .int .i32 p.sign, .slice au p.rs.length cu, .bool p.neg] 35)
      have HR := Lib.hid (HR.out.below HA2)
      have HB := Lib.hid (HB.out.trans (HA2.mono (by omega)))
      have hz7 : w6.heap.size ≤ (w6.alloc (.cells #[.int .i64 p.kind, .int .i32 p.sign, .slice au p.rs.length cu, .bool p.neg] 35)).heap.size := by simp
      have y0 := HX.out.1 0 _ rfl
      have y1 := HX.out.1 1 _ rfl
      have y2 := HX.out.1 2 _ rfl
      have y3 := HX.out.1 3 _ rfl
      clear HA2
      have HWn := Lib.hid (HWd.out.snoc (p := p) (q := p) (.inl rfl))
      have hql : qs.length = j := by have := HWd.out.length; rw [List.length_take] at this; omega
      have hvl : (vs.take j).length = qs.length := by rw [List.length_take, HG1.out]; omega
      have HSN := Lib.hid (pcells_snoc .i32 (vs.take j) qs (.slice au p.rs.length cu) (p) hvl)
      have HRL2 : Hid (∀ x ∈ ps.take (j + 1), x.rs.length ≤ 20) := Lib.hid (by
        intro x hx
        rw [HPT.out, List.mem_append, List.mem_singleton] at hx
        rcases hx with hx | rfl
        · exact HRL.out x hx
        · omega)
      clear hvl hql
      go_wp2_with (at_builtin; refine append_row Tryd.underlying24 info_part_p rfl (by decide) rfl _ _ rfl rfl HR.out rfl (Sl.new _ 4 1 [.int .i64 p.kind, .int .i32 p.sign, .slice au p.rs.length cu, .bool p.neg] 35 rfl) (four_one _ _ _ _ _ _ _) ?_ ?_ ?_ ?_; omega; omega; omega)
      intro v7 w7 hr7 hb7
      have HR : Hid (Row w.heap.size 35 4 w7 v7 (j + 1) (pcells .i32 (vs.take (j + 1)) (qs ++ [p]))) := Lib.hid (by rw [HVS.out, HSN.out]; exact hr7)
      have HB := Lib.hid (HB.out.trans hb7)
      rw [← HPT.out] at HWn
      clear hr7 hb7 y0 y1 y2 y3
      go_wp2_with (fail)
      go_roundw
      case rel => exact ⟨j + 1, qs ++ [p], rfl, hlt, HWn, HRL2, HR, HB⟩
      case measure => simp [intOf] <;> omega
    | true =>
      have h3 := hg rfl
      have f0 := HX.out.2
      go_upto_region 14 with (fail)
      have HX := Lib.hid (HX.out.set 0 (.int .i64 4) (by simp))
      have HR := Lib.hid (HR0.out _ (HAx.out.setCell (p := ⟨bx, 0, none⟩) (by show bx ≤ bx; omega) (.int .i64 4)))
      have HB := Lib.hid (HB.out.setCell (p := ⟨bx, 0, none⟩) (by show w.heap.size ≤ bx; omega) (.int .i64 4))
      have hz6 : bx + 1 = (w6.setCell ⟨bx, 0, none⟩ (.int .i64 4)).heap.size := by simp [World.setCell]; omega
      clear hg f0 y0 y1 y2 y3 HAx HR0 hz5
      generalize w6.setCell ⟨bx, 0, none⟩ (.int .i64 4) = w8 at *
      obtain ⟨w6, rfl⟩ : ∃ z : World, z = w8 := ⟨_, rfl⟩
      have HA2 := (Below.refl w6.heap.size w6).alloc (Nat.le_refl _) (.cells #[.int .i64 4, .int .i32 p.sign, .slice au p.rs.length cu, .bool p.neg] 35)
      have HR := Lib.hid (HR.out.below HA2)
      have HB := Lib.hid (HB.out.trans (HA2.mono (by omega)))
      have hz7 : w6.heap.size ≤ (w6.alloc (.cells #[.int .i64 4, .int .i32 p.sign, .slice au p.rs.length cu, .bool p.neg] 35)).heap.size := by simp
      have y0 := HX.out.1 0 _ rfl
      have y1 := HX.out.1 1 _ rfl
      have y2 := HX.out.1 2 _ rfl
      have y3 := HX.out.1 3 _ rfl
      clear HA2
      have HWn := Lib.hid (HWd.out.snoc (p := p) (q := (⟨4, p.sign, p.rs, p.neg⟩ : PartV)) (.inr ⟨h3, rfl⟩))
      have hql : qs.length = j := by have := HWd.out.length; rw [List.length_take] at this; omega
      have hvl : (vs.take j).length = qs.length := by rw [List.length_take, HG1.out]; omega
      have HSN := Lib.hid (pcells_snoc .i32 (vs.take j) qs (.slice au p.rs.length cu) ((⟨4, p.sign, p.rs, p.neg⟩ : PartV)) hvl)
      have HRL2 : Hid (∀ x ∈ ps.take (j + 1), x.rs.length ≤ 20) := Lib.hid (by
        intro x hx
        rw [HPT.out, List.mem_append, List.mem_singleton] at hx
        rcases hx with hx | rfl
        · exact HRL.out x hx
        · omega)
      clear hvl hql
      go_wp2_with (at_builtin; refine append_row Tryd.underlying24 info_part_p rfl (by decide) rfl _ _ rfl rfl HR.out rfl (Sl.new _ 4 1 [.int .i64 4, .int .i32 p.sign, .slice au p.rs.length cu, .bool p.neg] 35 rfl) (four_one _ _ _ _ _ _ _) ?_ ?_ ?_ ?_; omega; omega; omega)
      intro v7 w7 hr7 hb7
      have HR : Hid (Row w.heap.size 35 4 w7 v7 (j + 1) (pcells .i32 (vs.take (j + 1)) (qs ++ [(⟨4, p.sign, p.rs, p.neg⟩ : PartV)]))) := Lib.hid (by rw [HVS.out, HSN.out]; exact hr7)
      have HB := Lib.hid (HB.out.trans hb7)
      rw [← HPT.out] at HWn
      clear hr7 hb7 y0 y1 y2 y3
      go_wp2_with (fail)
      go_roundw
      case rel => exact ⟨j + 1, qs ++ [(⟨4, p.sign, p.rs, p.neg⟩ : PartV)], rfl, hlt, HWn, HRL2, HR, HB⟩
      case measure => simp [intOf] <;> omega
end Go.Proofs.YtlmdpmfahfgjkaaDoor
