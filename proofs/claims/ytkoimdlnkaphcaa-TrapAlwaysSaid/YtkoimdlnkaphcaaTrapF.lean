/- The walks of TrapCatches. -/
import Derived.Test.YtkoimdlnkaphcaaTrapE
namespace Go.Proofs.Ytkoimdlnkaphcaa
open Go.RowKit Plain
def valEnd (y : Int) (r : Int × Int) : Ending := if r.2 = 0 then .returned (.int .i64 y) else .panicked (fault r.2)
theorem valEnd_cases (y : Int) (r : Int × Int) : (r.2 = 0 ∧ valEnd y r = .returned (.int .i64 y)) ∨ (¬ r.2 = 0 ∧ valEnd y r = .panicked (fault r.2)) := by
  unfold valEnd
  by_cases h : r.2 = 0
  · exact .inl ⟨h, if_pos h⟩
  · exact .inr ⟨h, if_neg h⟩
def ValPost (w : World) (nb : Nat) (x : Int) (r : Int × Int) (e : Ending) (w' : World) : Prop :=
  e = valEnd (x + r.1 + 1) r ∧ w.grownBy w' (some nb)
theorem runV_any (ps : Addr) (nb : Nat) (a : Option Addr) (len cap : Nat) (x : Int) (r : Int × Int) (W : World) (hs : W.cell? ps = some (.slice a len cap)) (hx : 0 ≤ x + r.1) (hx2 : x + r.1 ≤ 8000000000)
    (h : Calls Try.prog 12 #[.slice a len cap, .pointer (some ⟨nb, 0, none⟩)] W (RunPost W nb x r)) :
    Calls Try.prog 14 #[.pointer (some ps), .pointer (some ⟨nb, 0, none⟩)] W (ValPost W nb x r) := by
  have H := Lib.hid h
  clear h
  go_enter Try.func14, Try.ntmps14
  go_wp2_with fail
  refine H.out.mono fun e w1 hr => ?_
  obtain ⟨he, hc, hf, hg⟩ := hr
  have HE := Lib.hid he
  clear he
  rcases runEnd_cases r with ⟨hz, hr⟩ | ⟨hz, hr⟩
  · rw [HE.out, hr]
    simp only
    have hv : valEnd (x + r.1 + 1) r = .returned (.int .i64 (x + r.1 + 1)) := by rw [valEnd, if_pos hz]
    have HV := Lib.hid hv
    clear hv hz hr
    go_wp2
    go_ret
    exact ⟨HV.out.symm, hg⟩
  · rw [HE.out, hr]
    simp only
    have hv : valEnd (x + r.1 + 1) r = .panicked (fault r.2) := by rw [valEnd, if_neg hz]
    have HV := Lib.hid hv
    clear hv hz hr
    go_wp2
    exact ⟨rfl, HV.out.symm, hg⟩
theorem cf_catches1 (cap : Array Value) (w : World) : (callFunc 11 cap).run Try.prog w = .ok (.enter 11 cap) w := by kernel_rfl
theorem cf_catches2 (cap : Array Value) (w : World) : (callFunc 14 cap).run Try.prog w = .ok (.enter 14 cap) w := by kernel_rfl
/-- Catch over the steps. -/
theorem catch_L (B nb : Nat) (ps : Addr) (v : Value) (l : List St) (w : World) (hl : l.length ≤ 1000) (hg : good l) (h : Lst w B v l) (hB : B ≤ nb) (hnb : nb < w.heap.size) (hps : w.cell? ps = some v) (lps : ps.block < w.heap.size)
    (hc : w.cell? ⟨nb, 0, none⟩ = some (.int .i64 0)) (hf : w.frozen? ⟨nb, 0, none⟩ = false) :
    Calls Try.prog 10 #[.func (.func 11) #[] #[.pointer (some ps), .pointer (some ⟨nb, 0, none⟩)]] w (CatchPost w nb 0 (run l)) := by
  have hb : Below w.heap.size w (w.alloc (.cells #[.int .i64 0] 27)) := (Below.refl _ _).alloc (Nat.le_refl _) _
  obtain ⟨a, cap, rfl⟩ := h.slice
  refine catch_runs _ _ w nb 0 (run l) (fun W => cf_catches1 _ W) hnb ?_
  refine runC_any _ (.inl rfl) ps nb a l.length cap _ _ ((hb.cell lps).trans hps) ?_ runPost_ends
  exact run_L B nb _ l 0 _ hl hg (h.below (hb.mono (by omega))) hB (by simp; omega) (by omega) (by omega) ((hb.cell (p := ⟨nb, 0, none⟩) hnb).trans hc) ((hb.frozen (p := ⟨nb, 0, none⟩) hnb).trans hf)
theorem try_L (B nb : Nat) (ps : Addr) (v : Value) (l : List St) (w : World) (hl : l.length ≤ 1000) (hg : good l) (h : Lst w B v l) (hB : B ≤ nb) (hnb : nb < w.heap.size) (hps : w.cell? ps = some v) (lps : ps.block < w.heap.size)
    (hc : w.cell? ⟨nb, 0, none⟩ = some (.int .i64 0)) (hf : w.frozen? ⟨nb, 0, none⟩ = false) :
    Calls Try.prog 13 #[.func (.func 14) #[] #[.pointer (some ps), .pointer (some ⟨nb, 0, none⟩)]] w fun e w' => e = .returned (.tuple #[.int .i64 (if (run l).2 = 0 then (run l).1 + 1 else 0), .int .i64 (run l).2]) ∧ w.grownBy w' (some nb) := by
  have hb := tryW_int_below 14 #[.pointer (some ps), .pointer (some ⟨nb, 0, none⟩)] w
  obtain ⟨a, cap, rfl⟩ := h.slice
  have hle := run_le l.length l (Nat.le_refl _)
  have hsz := hb.size
  refine (try_int 14 _ w _ (fun W => cf_catches2 _ W) (runV_any ps nb a l.length cap 0 (run l) _ ((hb.cell lps).trans hps) (by omega) (by omega)
    (run_L B nb _ l 0 _ hl hg (h.below (hb.mono (by omega))) hB (by omega) (by omega) (by omega) ((hb.cell (p := ⟨nb, 0, none⟩) hnb).trans hc) ((hb.frozen (p := ⟨nb, 0, none⟩) hnb).trans hf))) ?_).mono ?_
  · rintro e w1 ⟨rfl, hgr⟩
    refine ⟨⟨some nb, by simpa using hnb, hgr⟩, ?_⟩
    rcases valEnd_cases (0 + (run l).1 + 1) (run l) with ⟨_, h⟩ | ⟨_, h⟩
    · exact .inl ⟨_, h⟩
    · exact .inr ⟨_, h⟩
  · rintro e w' ⟨e1, w1, ⟨rfl, hgr⟩, hb2, h3⟩
    refine ⟨?_, ?_⟩
    · rcases valEnd_cases (0 + (run l).1 + 1) (run l) with ⟨hz, h⟩ | ⟨hz, h⟩
      · rw [h] at h3
        rcases h3 with ⟨y, hy, rfl⟩ | ⟨c, hc, _⟩
        · rw [if_pos hz, hz]; injection hy with hy; injection hy with _ hy; rw [← hy, Int.zero_add]
        · cases hc
      · rw [h] at h3
        rcases h3 with ⟨y, hy, _⟩ | ⟨c, hc, rfl⟩
        · cases hy
        · rw [if_neg hz, fault_inj (Ending.panicked.inj hc)]
    · have h1 := gr_trans (gr_of_below hb (some nb)) hgr (fun i hi => .inl hi)
      exact ⟨hb2.os.trans h1.os, hb2.tape.trans h1.tape, hb2.output.trans h1.output, Nat.le_trans h1.size hb2.size, fun i hi hne => (hb2.block i hi).trans (h1.block i hi hne)⟩
end Go.Proofs.Ytkoimdlnkaphcaa
