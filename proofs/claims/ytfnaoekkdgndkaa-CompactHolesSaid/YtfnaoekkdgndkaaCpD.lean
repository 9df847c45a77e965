/- What Plan leaves: every byte, none twice, no holes. Plain. -/
import Derived.Test.YtfnaoekkdgndkaaCpJ
namespace Go.Proofs.Ytfnaoekkdgndkaa
set_option maxRecDepth 100000
set_option linter.unusedVariables false
set_option linter.unusedSimpArgs false
/-- How many bytes lie ahead. -/
def rk (l : List Nat) (x : Nat) : Nat := l.countP (· < x)
theorem rk_perm {l m : List Nat} (h : l.Perm m) (x : Nat) : rk l x = rk m x := h.countP_eq _
theorem rk_lt {l : List Nat} {x : Nat} (h : x ∈ l) : rk l x < l.length := by
  unfold rk
  have h1 : l.countP (· < x) ≤ l.length := List.countP_le_length
  rcases Nat.lt_or_ge (l.countP (· < x)) l.length with h2 | h2
  · exact h2
  · have h3 := List.countP_eq_length.1 (Nat.le_antisymm h1 h2) x h
    simp at h3
theorem rk_mono {l : List Nat} {x y : Nat} (h : x < y) (hx : x ∈ l) : rk l x < rk l y := by
  unfold rk
  induction l with
  | nil => cases hx
  | cons a t ih =>
    rw [List.countP_cons, List.countP_cons]
    rcases List.mem_cons.1 hx with rfl | hx
    · have h1 : t.countP (· < x) ≤ t.countP (· < y) := List.countP_mono_left fun z _ hz => by simp at hz ⊢; omega
      simp [h]
      omega
    · have := ih hx
      by_cases h1 : a < x
      · simp [h1, show a < y by omega]; omega
      · by_cases h2 : a < y
        · simp [h1, h2]; omega
        · simp [h1, h2]; omega
theorem rk_inj {l : List Nat} {x y : Nat} (hx : x ∈ l) (hy : y ∈ l) (h : rk l x = rk l y) : x = y := by
  rcases Nat.lt_trichotomy x y with c | c | c
  · have := rk_mono c hx; omega
  · exact c
  · have := rk_mono c hy; omega
theorem count_bts (a n x : Nat) : (bts (a, n)).countP (· < x) = min n (x - a) := by
  unfold bts
  simp only
  induction n with
  | zero => simp
  | succ n ih =>
    rw [List.range_succ, List.map_append, List.countP_append, ih]
    simp
    split <;> omega
theorem bytesP_cons (p : Pc) (l : List Pc) : bytesP (p :: l) = bts (p.a, p.l) ++ bytesP l := by unfold bytesP; simp
/-- A byte's rank among pieces behind one another. -/
theorem rank_at : ∀ {l : List Pc}, (l.Pairwise fun p q => p.a + p.l ≤ q.a) → ∀ {k q : Nat}, k < l.length → q < (atP l k).l → rk (bytesP l) ((atP l k).a + q) = lenN (atP l) k + q
  | [], _, k, q, hk, _ => by simp at hk
  | p :: l, h, k, q, hk, hq => by
    have hp := List.pairwise_cons.1 h
    have hcons : ∀ x, rk (bytesP (p :: l)) x = min p.l (x - p.a) + rk (bytesP l) x := fun x => by
      unfold rk
      rw [bytesP_cons, List.countP_append, count_bts]
    cases k with
    | zero =>
      have e : atP (p :: l) 0 = p := rfl
      rw [e] at hq ⊢
      rw [hcons]
      have h0 : rk (bytesP l) (p.a + q) = 0 := by
        unfold rk
        rw [List.countP_eq_zero]
        intro x hx
        unfold bytesP at hx
        rw [List.mem_flatMap] at hx
        obtain ⟨r, hr, hx⟩ := hx
        have h1 := hp.1 r hr
        have h2 := (mem_bts.1 hx).1
        simp at h2 ⊢
        omega
      rw [h0]
      show min p.l (p.a + q - p.a) + 0 = 0 + q
      omega
    | succ k =>
      have e : atP (p :: l) (k + 1) = atP l k := rfl
      rw [e] at hq ⊢
      have hk' : k < l.length := by simpa using hk
      have ih := rank_at hp.2 hk' hq
      rw [hcons, ih]
      have h1 := hp.1 _ (atP_mem hk')
      have h2 : ∀ j, lenN (atP (p :: l)) (j + 1) = p.l + lenN (atP l) j := by
        intro j
        induction j with
        | zero => show 0 + p.l = p.l + 0; omega
        | succ j ih =>
          show lenN (atP (p :: l)) (j + 1) + (atP (p :: l) (j + 1)).l = p.l + (lenN (atP l) j + (atP l j).l)
          have e : atP (p :: l) (j + 1) = atP l j := rfl
          rw [ih, e]
          omega
      rw [h2]
      omega
section
variable {ls : Nat → List Sp} {n : Nat}
/-- The lists that Plan leaves, before they are joined. -/
def plL (ls : Nat → List Sp) (n : Nat) : Nat → List Sp := (PL ls n (sumL ls n)).ls
def rkA (ls : Nat → List Sp) (n : Nat) (x : Nat) : Nat := rk (allB ls n) x
theorem rkA_pcs (ls : Nat → List Sp) (n x : Nat) : rkA ls n x = rk (bytesP (pcs ls n)) x := by
  unfold rkA
  rw [← bytesP_all]
  exact rk_perm (bytesP_perm (insL_perm _)).symm x
theorem plL_len (o : Nat) : (plL ls n o).length = (ls o).length := PL_lens _ _ _ _
theorem plL_span (h : WF ls n) {o j : Nat} (ho : o < n) (hj : j < (ls o).length) : bts (atS (plL ls n o) j) = (bts (atS (ls o) j)).map (rkA ls n) := by
  obtain ⟨k, hk, e⟩ := pcs_has ls n ho hj
  have h1 : atS (plL ls n o) j = (lenN (atP (pcs ls n)) k, (atS (ls o) j).2) := plan_at ls n hk hj e
  rw [h1]
  unfold bts
  simp only
  rw [List.map_map]
  refine List.map_congr_left fun q hq => ?_
  rw [List.mem_range] at hq
  have h2 := rank_at h.ends (k := k) (q := q) (by rw [pcs_len]; exact hk) (by rw [e]; exact hq)
  rw [e] at h2
  simp only [Function.comp]
  rw [rkA_pcs]
  exact h2.symm
theorem bytes_map {l l' : List Sp} {φ : Nat → Nat} (hl : l'.length = l.length) (h : ∀ j, j < l.length → bts (atS l' j) = (bts (atS l j)).map φ) : bytes l' = (bytes l).map φ := by
  have key : ∀ j, j ≤ l.length → bytes (l'.take j) = (bytes (l.take j)).map φ := by
    intro j
    induction j with
    | zero => intro _; rfl
    | succ j ih =>
      intro hj
      rw [List.take_add_one, List.take_add_one, atS_get (by omega), atS_get (by omega), bytes_app, bytes_app, ih (by omega), List.map_append]
      show _ ++ bytes [atS l' j] = _ ++ (bytes [atS l j]).map φ
      rw [bytes_one, bytes_one, h j (by omega)]
  have := key l.length (Nat.le_refl _)
  rwa [List.take_of_length_le (by omega), List.take_of_length_le (by omega)] at this
theorem plL_bytes (h : WF ls n) {o : Nat} (ho : o < n) : bytes (plL ls n o) = (bytes (ls o)).map (rkA ls n) := bytes_map (plL_len o) fun j hj => plL_span h ho hj
theorem allB_map {ls ls' : Nat → List Sp} {φ : Nat → Nat} : ∀ {n : Nat}, (∀ o, o < n → bytes (ls' o) = (bytes (ls o)).map φ) → allB ls' n = (allB ls n).map φ
  | 0, _ => rfl
  | n + 1, h => by unfold allB; rw [allB_map (fun o ho => h o (by omega)), h n (by omega), List.map_append]
theorem plL_allB (h : WF ls n) : allB (plL ls n) n = (allB ls n).map (rkA ls n) := allB_map fun o ho => plL_bytes h ho
theorem nodup_map {l : List Nat} {φ : Nat → Nat} (h : l.Nodup) (hi : ∀ x ∈ l, ∀ y ∈ l, φ x = φ y → x = y) : (l.map φ).Nodup := by
  induction l with
  | nil => exact List.Pairwise.nil
  | cons a t ih =>
    have h1 := List.nodup_cons.1 h
    rw [List.map_cons, List.nodup_cons]
    refine ⟨fun hm => ?_, ih h1.2 (fun x hx y hy => hi x (List.mem_cons_of_mem _ hx) y (List.mem_cons_of_mem _ hy))⟩
    obtain ⟨b, hb, e⟩ := List.mem_map.1 hm
    have := hi b (List.mem_cons_of_mem _ hb) a List.mem_cons_self e
    subst this
    exact h1.1 hb
/-- The chains behind the moves. -/
def nowL (ls : Nat → List Sp) (n : Nat) : Nat → List Sp := fun o => joinL (plL ls n o)
theorem now_allB : ∀ (ls : Nat → List Sp) (n m : Nat), allB (nowL ls n) m = allB (plL ls n) m
  | ls, n, 0 => rfl
  | ls, n, m + 1 => by unfold allB; rw [now_allB ls n m]; exact congrArg _ (bytes_join _)
theorem now_wf (h : WF ls n) : WF (nowL ls n) n := by
  refine ⟨fun o _ => pos_join _, ?_⟩
  rw [now_allB, plL_allB h]
  exact nodup_map h.nd fun x hx y hy e => rk_inj hx hy e
theorem now_lt (h : WF ls n) {x : Nat} (hx : x ∈ allB (nowL ls n) n) : x < (allB (nowL ls n) n).length := by
  rw [now_allB, plL_allB h] at hx ⊢
  obtain ⟨y, hy, rfl⟩ := List.mem_map.1 hx
  rw [List.length_map]
  exact rk_lt hy
/-- Where no room is ahead, nothing is to be moved. -/
theorem now_at (h : WF ls n) {k : Nat} (hk : k < sumL (nowL ls n) n) : (atP (pcs (nowL ls n) n) k).a = lenN (atP (pcs (nowL ls n) n)) k := by
  have hw := now_wf h
  refine lenN_eq hw.ends _ rfl (fun p hp => ?_) k (by rw [pcs_len]; exact hk)
  rw [pcs_len, lenN_total]
  have hpa := (insL_perm _).mem_iff.1 hp
  have hpos := hw.posP p hpa
  have hm : p.a + p.l - 1 ∈ allB (nowL ls n) n := by
    rw [← bytesP_all]
    unfold bytesP
    rw [List.mem_flatMap]
    exact ⟨p, hpa, mem_bts.2 ⟨by show p.a ≤ _; omega, by show _ < p.a + p.l; omega⟩⟩
  have := now_lt h hm
  omega
theorem now_moves (h : WF ls n) : ∀ k, k ≤ sumL (nowL ls n) n → (PL (nowL ls n) n k).mv = []
  | 0, _ => rfl
  | k + 1, hk => by
    have h1 := now_moves h k (by omega)
    rw [(PL_step (nowL ls n) n k _ rfl).1 (now_at h (by omega))]
    exact h1
end
end Go.Proofs.Ytfnaoekkdgndkaa
