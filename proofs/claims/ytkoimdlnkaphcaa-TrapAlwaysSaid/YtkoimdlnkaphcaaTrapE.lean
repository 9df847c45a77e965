/- Steps as a slice, nil or not; the contracts of plain, Run and run over such a slice. -/
import Derived.Test.YtkoimdlnkaphcaaTrapMust
namespace Go.Proofs.Ytkoimdlnkaphcaa
open Go.RowKit Plain
/-- The value reads as steps; their memory lies below block B. -/
def Lst (w : World) (B : Nat) (v : Value) (l : List St) : Prop :=
  (∃ a cap, v = .slice a 0 cap ∧ l = []) ∨ ∃ b off cap, v = .slice (some ⟨b, off, none⟩) l.length cap ∧ l.length ≤ cap ∧ b < B ∧ StepsAt w b off l
theorem Lst.below {w w' : World} {B : Nat} {v : Value} {l : List St} (h : Lst w B v l) (hb : Below B w w') : Lst w' B v l := by
  rcases h with h | ⟨b, off, cap, h1, h2, h3, h4⟩
  · exact .inl h
  · refine .inr ⟨b, off, cap, h1, h2, h3, fun j hj => ?_⟩
    rw [hb.cell (p := ⟨b, _, none⟩) h3, hb.cell (p := ⟨b, _, none⟩) h3]
    exact h4 j hj
theorem Lst.mono {w : World} {B B' : Nat} {v : Value} {l : List St} (h : Lst w B v l) (hB : B ≤ B') : Lst w B' v l := by
  rcases h with h | ⟨b, off, cap, h1, h2, h3, h4⟩
  · exact .inl h
  · exact .inr ⟨b, off, cap, h1, h2, by omega, h4⟩
theorem Lst.grown {w w' : World} {B nb : Nat} {v : Value} {l : List St} (h : Lst w B v l) (hg : w.grownBy w' (some nb)) (hB : B ≤ w.heap.size) (hn : B ≤ nb) : Lst w' B v l :=
  h.below (gr_below hg _ hB (by simp; omega))
theorem plain_L (B : Nat) (v : Value) (l : List St) (w : World) (hl : l.length ≤ 1000) (h : Lst w B v l) (hB : B ≤ w.heap.size) :
    Calls Try.prog 8 #[v] w fun e w' => ∃ v', e = .returned v' ∧ Lst w' w'.heap.size v' (l.map fixed) ∧ Below w.heap.size w w' := by
  rcases h with ⟨a, cap, rfl, rfl⟩ | ⟨b, off, cap, rfl, h2, h3, h4⟩
  · exact (plain_nil a cap w).mono fun e w' ⟨he, hw⟩ => ⟨_, he, .inl ⟨none, 0, rfl, rfl⟩, by subst hw; exact Below.refl _ _⟩
  · refine (plain_any b off cap l w hl (by omega) h4).mono ?_
    rintro e w' ⟨v', rfl, hown, hb⟩
    refine ⟨v', rfl, ?_, hb⟩
    obtain ⟨hlen, hown⟩ := hown
    rcases hown with ⟨rfl, h0⟩ | ⟨g, c, cur, rfl, hg, hh, hnc, _, hcs, htk⟩
    · refine .inl ⟨none, 0, rfl, ?_⟩
      have : l = [] := List.length_eq_zero_iff.1 h0
      rw [this]; rfl
    · have hgl : g < w'.heap.size := by
        rcases Nat.lt_or_ge g w'.heap.size with h | h
        · exact h
        · rw [Array.getElem?_eq_none h] at hh; cases hh
      refine .inr ⟨g, 0, c, by rw [List.length_map], by rw [List.length_map]; exact hnc, hgl, ?_⟩
      have key : ∀ i u, (stepCells (l.map fixed))[i]? = some u → w'.cell? ⟨g, i, none⟩ = some u := by
        intro i u hu
        rw [← htk, List.getElem?_take] at hu
        simp only [World.cell?, hh]
        split at hu
        · simpa using hu
        · cases hu
      have idx : ∀ (m : List St) (j : Nat), j < m.length → (stepCells m)[j * 2]? = some (.int .i64 (m.getD j (0, 0)).1) ∧ (stepCells m)[j * 2 + 1]? = some (.int .i64 (m.getD j (0, 0)).2) := by
        intro m
        induction m with
        | nil => intro j hj; simp at hj
        | cons x xs ih =>
          intro j hj
          cases j with
          | zero => exact ⟨rfl, rfl⟩
          | succ j =>
            have := ih j (by simpa using hj)
            rw [show (j + 1) * 2 = j * 2 + 1 + 1 from by omega]
            exact this
      intro j hj
      have := idx (l.map fixed) j hj
      rw [Nat.zero_add]
      exact ⟨key _ _ this.1, key _ _ this.2⟩
theorem refRun_L (B : Nat) (v : Value) (l : List St) (w : World) (hl : l.length ≤ 1000) (hg : good l) (h : Lst w B v l) :
    Calls Try.prog 9 #[v] w fun e w' => e = .returned (.tuple #[.int .i64 (run l).1, .int .i64 (run l).2]) ∧ Below w.heap.size w w' := by
  rcases h with ⟨a, cap, rfl, rfl⟩ | ⟨b, off, cap, rfl, h2, h3, h4⟩
  · refine (refRun_nil a cap w).mono fun e w' ⟨he, hw⟩ => ⟨?_, by subst hw; exact Below.refl _ _⟩
    rw [he]; simp [run]
  · refine (refRun_any b off cap l w hl h4).mono ?_
    rintro e w' ⟨rfl, n, rfl⟩
    refine ⟨?_, below_drewN (Below.refl _ _) n⟩
    rw [ref_eq_run hg]
theorem run_L (B nb : Nat) (v : Value) (l : List St) (x : Int) (w : World) (hl : l.length ≤ 1000) (hg : good l) (h : Lst w B v l) (hB : B ≤ nb) (hnb : nb < w.heap.size) (hx0 : 0 ≤ x) (hx1 : x + 1000 * l.length ≤ 4000000000)
    (hc : w.cell? ⟨nb, 0, none⟩ = some (.int .i64 x)) (hf : w.frozen? ⟨nb, 0, none⟩ = false) :
    Calls Try.prog 12 #[v, .pointer (some ⟨nb, 0, none⟩)] w (RunPost w nb x (run l)) := by
  rcases h with ⟨a, cap, rfl, rfl⟩ | ⟨b, off, cap, rfl, h2, h3, h4⟩
  · exact run_nil a cap nb x w hnb hc hf
  · exact run_any (l.length + 1) l b off cap nb x w (by omega) hg h2 hl hx0 hx1 (by omega) hnb (by omega) h4 hc hf
/-- A closure of no result that runs steps. -/
theorem runC_any (F : Nat) (hF : F = 11 ∨ F = 17) (ps : Addr) (nb : Nat) (a : Option Addr) (len cap : Nat) (W : World) (R : Ending → World → Prop) (hs : W.cell? ps = some (.slice a len cap))
    (h : Calls Try.prog 12 #[.slice a len cap, .pointer (some ⟨nb, 0, none⟩)] W R) (hR : ∀ e w, R e w → e = .returned (.tuple #[]) ∨ ∃ c, e = .panicked (fault c)) :
    Calls Try.prog F #[.pointer (some ps), .pointer (some ⟨nb, 0, none⟩)] W R := by
  have H := Lib.hid h
  have HR := Lib.hid hR
  clear h hR
  rcases hF with rfl | rfl
  · go_enter Try.func11, Try.ntmps11
    go_wp2_with fail
    refine H.out.mono fun e w1 hr => ?_
    rcases HR.out e w1 hr with rfl | ⟨c, rfl⟩
    · simp only
      go_wp2
      go_end0
      exact hr
    · simp only
      go_wp2
      exact ⟨rfl, hr⟩
  · go_enter Try.func17, Try.ntmps17
    go_wp2_with fail
    refine H.out.mono fun e w1 hr => ?_
    rcases HR.out e w1 hr with rfl | ⟨c, rfl⟩
    · simp only
      go_wp2
      go_end0
      exact hr
    · simp only
      go_wp2
      exact ⟨rfl, hr⟩
theorem runPost_ends {w : World} {nb : Nat} {x : Int} {r : Int × Int} : ∀ e w', RunPost w nb x r e w' → e = .returned (.tuple #[]) ∨ ∃ c, e = .panicked (fault c) := by
  rintro e w' ⟨rfl, _, _, _⟩
  rcases runEnd_cases r with ⟨_, hr⟩ | ⟨_, hr⟩
  · exact .inl hr
  · exact .inr ⟨_, hr⟩
theorem Lst.slice {w : World} {B : Nat} {v : Value} {l : List St} (h : Lst w B v l) : ∃ a cap, v = .slice a l.length cap := by
  rcases h with ⟨a, cap, rfl, rfl⟩ | ⟨b, off, cap, rfl, _⟩
  · exact ⟨a, cap, rfl⟩
  · exact ⟨_, cap, rfl⟩
end Go.Proofs.Ytkoimdlnkaphcaa
