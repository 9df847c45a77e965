/- The stable sort. -/
import Derived.Test.YtfnaoekkdgndkaaSrH
namespace Go.Proofs.Ytfnaoekkdgndkaa
set_option maxRecDepth 100000
set_option linter.unusedVariables false
set_option linter.unusedSimpArgs false
open Go.RowKit
theorem symMerge_all (gc : Nat) (cb : Array Value) (cf : El → El → Int) (le : El → El → Prop) (o : Ord le) (hcf : ∀ x y, cf x y < 0 ↔ ¬ le y x) (heg : ∀ args W, (callFunc gc args).run Try.prog W = .ok (.enter gc args) W) (blk n cap : Nat) (hn : n ≤ 1000000) (w0 : World) (hC : CmpOK gc cb cf blk w0) :
    ∀ (N a m b : Nat) (f : Nat → El) (w : World), b - a ≤ N → b ≤ n → Arr w blk n f → Gr blk w0 w → Srt le f a m → Srt le f m b → HalfOK le blk n a m b gc cap cb f w
  | 0, a, m, b, f, w, hN, hb, hA, hG, hl, hr => fun h1 h2 => by omega
  | N + 1, a, m, b, f, w, hN, hb, hA, hG, hl, hr => fun h1 h2 => by
    by_cases c1 : m = a + 1
    · exact sym_one blk n cap a m b gc cb cf le f w hA hn h1 h2 hb o hcf hl hr (hC.up hG) heg c1
    · by_cases c2 : b = m + 1
      · exact sym_last blk n cap a m b gc cb cf le f w hA hn h1 h2 hb o hcf hl hr (hC.up hG) heg c2 c1
      · exact sym_rec blk n cap a m b gc cb cf le f w hA hn h1 h2 hb o hcf hl hr (hC.up hG) heg c1 c2
          (fun a' m' b' f' w' h3 h4 h5 h6 h7 h8 => symMerge_all gc cb cf le o hcf heg blk n cap hn w0 hC N a' m' b' f' w' (by omega) h4 h5 (hG.trans h6) h7 h8)
set_option maxHeartbeats 8000000 in
theorem stable_any (blk n cap gc : Nat) (cb : Array Value) (cf : El → El → Int) (le : El → El → Prop) (f : Nat → El) (w : World) (hA : Arr w blk n f) (hn : n ≤ 100000)
    (o : Ord le) (hcf : ∀ x y, cf x y < 0 ↔ ¬ le y x) (hC : CmpOK gc cb cf blk w) (heg : ∀ args W, (callFunc gc args).run Try.prog W = .ok (.enter gc args) W) :
    Calls Try.prog 27 #[.slice (some ⟨blk, 0, none⟩) n cap, .int .i64 (n : Nat), .func (.func gc) #[] cb] w (InsOut le f blk n 0 n w) := by
  have HA := Lib.hid hA
  have HI := Lib.hid (fun (a b : Nat) (g : Nat → El) (W : World) (h1 : a ≤ b) (h2 : b ≤ n) (h3 : Arr W blk n g) (h4 : Gr blk w W) => insertion_any blk n cap a b gc cb cf le (fun _ _ => True) g W h3 (by omega) h1 h2 o (fun x y _ => hcf x y) (fun _ _ _ _ _ => trivial) (hC.up h4) heg)
  have HM := Lib.hid (fun (a m b : Nat) (g : Nat → El) (W : World) (h2 : b ≤ n) (h3 : Arr W blk n g) (h4 : Gr blk w W) (h5 : Srt le g a m) (h6 : Srt le g m b) => symMerge_all gc cb cf le o hcf heg blk n cap (by omega) w hC (b - a) a m b g W (Nat.le_refl _) h2 h3 h4 h5 h6)
  clear hA hC o hcf
  go_enter Try.func27, Try.ntmps27
  go_wp2_with (fail)
  go_loopw [7, 8] (fun x y wr => ∃ (a : Nat) (g : Nat → El), x = .int .i64 a ∧ y = .int .i64 ((a + 20 : Nat) : Int) ∧ a ≤ n ∧ Hid (RunsP le g 20 n a) ∧ Hid (Sw 0 n f g) ∧ Hid (Arr wr blk n g) ∧ Hid (Gr blk w wr)) (fun x _ _ => n + 20 - (intOf x).toNat)
  case atStart => exact ⟨0, f, rfl, rfl, by omega, Lib.hid .nil, Lib.hid .refl, HA, Lib.hid (Gr.refl _ _)⟩
  case round =>
    clear HA
    obtain ⟨a, g, rfl, rfl, ha, HP, HS, HA, HG⟩ := hrel
    obtain ⟨wo, rfl⟩ : ∃ z : World, z = wr := ⟨_, rfl⟩
    by_cases hlt : a + 20 ≤ n
    · as_aux_lemma =>
      have d1 : decide (((a + 20 : Nat) : Int) ≤ (n : Int)) = true := decide_eq_true (by omega)
      have d2 : decide ((a : Int) + 20 ≤ (n : Int)) = true := decide_eq_true (by omega)
      have q1 : IntKind.i64.wrap (((a + 20 : Nat) : Int) + 20) = ((a + 20 + 20 : Nat) : Int) := by rw [IntWalk.i64_in _ (by omega)]; omega
      have HW := Lib.hid (HI.out a (a + 20) g wo (by omega) hlt HA.out HG.out)
      have ha2 : a + 20 + 20 ≤ 200000 := by omega
      obtain ⟨b, hb⟩ : ∃ b, a + 20 = b := ⟨_, rfl⟩
      have HBB := Lib.hid hb
      rw [hb] at d1 q1 HW hlt ha2 ⊢
      clear hb d2
      have d3 : b ≤ n := hlt
      go_wp2_with (fail)
      refine HW.out.mono ?_
      rintro e w1 ⟨rfl, ⟨g', hs, ht, ha'⟩, hg⟩
      have HA := Lib.hid ha'
      have HG := Lib.hid (HG.out.trans hg)
      have HP2 : Hid (RunsP le g' 20 n b) := Lib.hid (by
        have h1 := HP.out.congr (g' := g') fun k hk => hs.out k (.inl hk)
        have h2 := ht
        rw [← HBB.out] at h2 ⊢
        exact .snoc a h1 (by have := HBB.out; omega) h2)
      have HS2 : Hid (Sw 0 n f g') := Lib.hid (HS.out.trans (hs.mono (Nat.zero_le _) hlt))
      have hba : a < b := by have := HBB.out; omega
      clear ha' hg hs ht HW
      go_wp2_with (fail)
      go_roundw
      case rel => exact ⟨b, g', rfl, rfl, hlt, HP2, HS2, HA, HG⟩
      case measure => simp [intOf] <;> omega
    · have d1 : decide (((a + 20 : Nat) : Int) ≤ (n : Int)) = false := decide_eq_false (by omega)
      have d3 : ¬ (a + 20 ≤ n) := hlt
      have HW := Lib.hid (HI.out a n g wo ha (Nat.le_refl _) HA.out HG.out)
      obtain ⟨b, hb⟩ : ∃ b, a + 20 = b := ⟨_, rfl⟩
      have HBB := Lib.hid hb
      rw [hb] at d1 hlt d3 ⊢
      clear hb
      go_wp2_with (fail)
      refine HW.out.mono ?_
      rintro e w1 ⟨rfl, ⟨g', hs, ht, ha'⟩, hg⟩
      have HA1 := Lib.hid ha'
      have HG1 := Lib.hid (HG.out.trans hg)
      have HR1 : Hid (Runs le g' 20 n 0) := Lib.hid ((HP.out.congr (g' := g') fun k hk => hs.out k (.inl hk)).app (.last a (by have := HBB.out; omega) ht))
      have HS1 : Hid (Sw 0 n f g') := Lib.hid (HS.out.trans (hs.mono (Nat.zero_le _) (Nat.le_refl _)))
      clear ha' hg hs ht HW HA HG HP HS d1 d3 hlt HBB HI
      go_wp2_with (fail)
      go_loopw [6, 7, 8, 9] (fun x _ _ _ wr => ∃ (bs : Nat) (g : Nat → El), x = .int .i64 bs ∧ 20 ≤ bs ∧ bs ≤ 200000 ∧ Hid (Runs le g bs n 0) ∧ Hid (Sw 0 n f g) ∧ Hid (Arr wr blk n g) ∧ Hid (Gr blk w wr)) (fun x _ _ _ _ => n - (intOf x).toNat)
      case atStart => exact ⟨20, g', rfl, Nat.le_refl _, by omega, HR1, HS1, HA1, HG1⟩
      case round =>
        clear HA1 HG1 HR1 HS1
        obtain ⟨bs, g1, rfl, hb1, hb2, HR, HS, HA, HG⟩ := hrel
        obtain ⟨w2, rfl⟩ : ∃ z : World, z = wr := ⟨_, rfl⟩
        by_cases hlt : bs < n
        rotate_left
        · have d1 : decide ((bs : Int) < (n : Int)) = false := decide_eq_false (by omega)
          have d2 : decide (bs < n) = false := decide_eq_false hlt
          go_wp2_with (fail)
          go_end0
          exact InsOut.mk HS.out (HR.out.one (by omega)) HA.out HG.out
        have d1 : decide ((bs : Int) < (n : Int)) = true := decide_eq_true (by omega)
        have d2 : decide (bs < n) = true := decide_eq_true hlt
        have q1 : IntKind.i64.wrap (2 * (bs : Int)) = ((2 * bs : Nat) : Int) := by rw [IntWalk.i64_in _ (by omega)]; omega
        have q2 : IntKind.i64.wrap ((bs : Int) * 2) = ((2 * bs : Nat) : Int) := by rw [IntWalk.i64_in _ (by omega)]; omega
        obtain ⟨b2, hb2'⟩ : ∃ z, 2 * bs = z := ⟨_, rfl⟩
        have HB2 := Lib.hid hb2'
        rw [hb2'] at q1 q2
        have hb2l : b2 ≤ 200000 ∧ bs < b2 := by omega
        clear hb2'
        go_wp2_with (fail)
        go_loopw [7, 8] (fun x y wr => ∃ (a : Nat) (g : Nat → El), x = .int .i64 a ∧ y = .int .i64 ((a + b2 : Nat) : Int) ∧ a ≤ n ∧ Hid (RunsP le g b2 n a) ∧ Hid (Runs le g bs n a) ∧ Hid (Sw 0 n f g) ∧ Hid (Arr wr blk n g) ∧ Hid (Gr blk w wr)) (fun x _ _ => n + b2 - (intOf x).toNat)
        case atStart => exact ⟨0, g1, rfl, by simp, by omega, Lib.hid .nil, HR, HS, HA, HG⟩
        case round =>
          clear HA HS HG HR
          obtain ⟨a, g, rfl, rfl, ha, HP, HR, HS, HA, HG⟩ := hrel
          obtain ⟨w3, rfl⟩ : ∃ z : World, z = wr := ⟨_, rfl⟩
          obtain ⟨b, hb⟩ : ∃ b, a + b2 = b := ⟨_, rfl⟩
          have HBB := Lib.hid hb
          rw [hb]
          have q3 : IntKind.i64.wrap ((a : Int) + (bs : Int)) = ((a + bs : Nat) : Int) := by rw [IntWalk.i64_in _ (by omega)]; omega
          have q4 : IntKind.i64.wrap ((b : Int) + (b2 : Int)) = ((b + b2 : Nat) : Int) := by rw [IntWalk.i64_in _ (by omega)]; omega
          have hab : a < b := by omega
          obtain ⟨m, hm⟩ : ∃ m, a + bs = m := ⟨_, rfl⟩
          rw [hm] at q3
          have HMM := Lib.hid hm
          have ham : a < m ∧ m < b := by have := HB2.out; omega
          clear hb hm
          by_cases hlb : b ≤ n
          · as_aux_lemma =>
            have d3 : decide ((b : Int) ≤ (n : Int)) = true := decide_eq_true (by omega)
            have d4 : decide (b ≤ n) = true := decide_eq_true hlb
            have h2 := HR.out.two (by have := HBB.out; have := HB2.out; omega) (by omega)
            rw [show a + 2 * bs = b by have := HBB.out; have := HB2.out; omega, show a + bs = m from HMM.out] at h2
            have HW := Lib.hid (HM.out a m b g w3 hlb HA.out HG.out h2.1 h2.2.1 ham.1 ham.2)
            have HR3 := Lib.hid h2.2.2
            clear h2
            go_wp2_with (fail)
            refine HW.out.mono ?_
            rintro e w4 ⟨rfl, ⟨g', hs, ht, ha'⟩, hg⟩
            have HA := Lib.hid ha'
            have HG := Lib.hid (HG.out.trans hg)
            have HP2 : Hid (RunsP le g' b2 n b) := Lib.hid (by
              have h1 := HP.out.congr (g' := g') fun k hk => hs.out k (.inl hk)
              have h2 := ht
              rw [← HBB.out] at h2 ⊢
              exact .snoc a h1 (by have := HBB.out; omega) h2)
            have HR4 : Hid (Runs le g' bs n b) := Lib.hid (HR3.out.congr fun k hk => hs.out k (.inr hk))
            have HS2 : Hid (Sw 0 n f g') := Lib.hid (HS.out.trans (hs.mono (Nat.zero_le _) hlb))
            clear ha' hg hs ht HW
            go_wp2_with (fail)
            go_roundw
            case rel => exact ⟨b, g', rfl, rfl, hlb, HP2, HR4, HS2, HA, HG⟩
            case measure => simp [intOf] <;> omega
          · have d3 : decide ((b : Int) ≤ (n : Int)) = false := decide_eq_false (by omega)
            have d4 : decide (b ≤ n) = false := decide_eq_false hlb
            by_cases hmn : m < n
            · as_aux_lemma =>
              have d5 : decide ((m : Int) < (n : Int)) = true := decide_eq_true (by omega)
              have d6 : decide (m < n) = true := decide_eq_true hmn
              have h2 := HR.out.half (by have := HMM.out; omega) (by have := HBB.out; have := HB2.out; omega)
              rw [show a + bs = m from HMM.out] at h2
              have HW := Lib.hid (HM.out a m n g w3 (Nat.le_refl _) HA.out HG.out h2.1 h2.2 ham.1 hmn)
              clear h2
              go_wp2_with (fail)
              refine HW.out.mono ?_
              rintro e w4 ⟨rfl, ⟨g', hs, ht, ha'⟩, hg⟩
              have HA := Lib.hid ha'
              have HG := Lib.hid (HG.out.trans hg)
              have HR4 : Hid (Runs le g' b2 n 0) := Lib.hid ((HP.out.congr (g' := g') fun k hk => hs.out k (.inl hk)).app (.last a (by have := HBB.out; omega) ht))
              have HS2 : Hid (Sw 0 n f g') := Lib.hid (HS.out.trans (hs.mono (Nat.zero_le _) (Nat.le_refl _)))
              clear ha' hg hs ht HW
              go_wp2_with (fail)
              go_roundw
              case rel => exact ⟨b2, g', rfl, by omega, by omega, HR4, HS2, HA, HG⟩
              case measure => simp [intOf] <;> omega
            · as_aux_lemma =>
              have d5 : decide ((m : Int) < (n : Int)) = false := decide_eq_false (by omega)
              have d6 : decide (m < n) = false := decide_eq_false hmn
              have HR4 : Hid (Runs le g b2 n 0) := Lib.hid (HP.out.app (.last a (by have := HBB.out; omega) (HR.out.one (by have := HMM.out; omega))))
              go_wp2_with (fail)
              go_roundw
              case rel => exact ⟨b2, g, rfl, by omega, by omega, HR4, HS, HA, HG⟩
              case measure => simp [intOf] <;> omega
theorem sortStable_any (blk n cap gc : Nat) (cb : Array Value) (cf : El → El → Int) (le : El → El → Prop) (f : Nat → El) (w : World) (hA : Arr w blk n f) (hn : n ≤ 100000)
    (o : Ord le) (hcf : ∀ x y, cf x y < 0 ↔ ¬ le y x) (hC : CmpOK gc cb cf blk w) (heg : ∀ args W, (callFunc gc args).run Try.prog W = .ok (.enter gc args) W) :
    Calls Try.prog 24 #[.slice (some ⟨blk, 0, none⟩) n cap, .func (.func gc) #[] cb] w (InsOut le f blk n 0 n w) := by
  have HW := Lib.hid (stable_any blk n cap gc cb cf le f w hA hn o hcf hC heg)
  clear hA o hcf hC
  go_enter Try.func24, Try.ntmps24
  go_wp2_with (fail)
  refine HW.out.mono ?_
  rintro e w1 ⟨rfl, h1, h2⟩
  have H1 := Lib.hid h1
  have H2 := Lib.hid h2
  clear h1 h2
  go_wp2_with (fail)
  go_end0
  exact ⟨rfl, H1.out, H2.out⟩
end Go.Proofs.Ytfnaoekkdgndkaa
