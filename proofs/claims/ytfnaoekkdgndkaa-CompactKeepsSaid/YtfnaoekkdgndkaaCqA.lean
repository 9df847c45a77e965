/- Data that lies in one block, and what moves do to it. -/
import Derived.Test.YtfnaoekkdgndkaaCpP
import Derived.Laws.CopyOwn
namespace Go.Proofs.Ytfnaoekkdgndkaa
set_option maxRecDepth 100000
set_option linter.unusedVariables false
set_option linter.unusedSimpArgs false
open Go.RowKit
def dC (n : Nat) (D : Nat → Int) : List Value := (List.range n).map fun x => .int .u8 (D x)
theorem dC_len (n : Nat) (D : Nat → Int) : (dC n D).length = n := by unfold dC; simp
theorem dC_get {n x : Nat} (D : Nat → Int) (h : x < n) : (dC n D)[x]? = some (.int .u8 (D x)) := by
  unfold dC
  rw [List.getElem?_map, List.getElem?_range h]
  rfl
theorem dC_one (n : Nat) (D : Nat → Int) : ∀ u ∈ dC n D, u.oneCell' = true := by
  intro u hu
  unfold dC at hu
  obtain ⟨x, _, rfl⟩ := List.mem_map.1 hu
  rfl
theorem dC_ext {n : Nat} {D : Nat → Int} {cs : List Value} (hl : cs.length = n) (h : ∀ x, x < n → cs[x]? = some (.int .u8 (D x))) : cs = dC n D := by
  refine List.ext_getElem? fun k => ?_
  by_cases hk : k < n
  · rw [h k hk, dC_get D hk]
  · rw [List.getElem?_eq_none (by omega), List.getElem?_eq_none (by rw [dC_len]; omega)]
def DB (w : World) (b n : Nat) (D : Nat → Int) : Prop := w.heap[b]? = some (.cells (dC n D).toArray 5 (0, 0))
section
variable {w w' : World} {b n B : Nat} {D : Nat → Int}
theorem DB.lt (h : DB w b n D) : b < w.heap.size := (Array.getElem?_eq_some_iff.1 h).1
theorem DB.cell (h : DB w b n D) {x : Nat} (hx : x < n) : w.cell? ⟨b, x, none⟩ = some (.int .u8 (D x)) := by
  unfold DB at h
  simp only [World.cell?, h]
  rw [List.getElem?_toArray]
  exact dC_get D hx
theorem DB.frozen (h : DB w b n D) (x : Nat) : w.frozen? ⟨b, x, none⟩ = false := by
  unfold DB at h
  simp [World.frozen?, h]
theorem DB.below (h : DB w b n D) (hb : Below B w w') (hB : b < B) : DB w' b n D := by
  unfold DB at h ⊢
  rw [hb.block b hB]
  exact h
theorem DB.new (w : World) (n : Nat) (D : Nat → Int) : DB (w.alloc (.cells (dC n D).toArray 5)) w.heap.size n D := by
  unfold DB World.alloc
  exact Array.getElem?_push_size
theorem DB.store (h : DB w b n D) {x : Nat} (hx : x < n) (y : Int) : DB (w.setCell ⟨b, x, none⟩ (.int .u8 y)) b n (fun z => if z = x then y else D z) := by
  have h' : w.heap[b]? = some (.cells (dC n D).toArray 5 (0, 0)) := h
  unfold DB
  rw [setCell_eq_setRow w b x _ _ _ _ h', setRow_heap w b _ _ _ _ h']
  congr 2
  rw [List.setIfInBounds_toArray]
  congr 1
  refine dC_ext (by rw [List.length_set, dC_len]) fun z hz => ?_
  by_cases e : x = z
  · subst e
    rw [List.getElem?_set_self (by rw [dC_len]; exact hz), if_pos rfl]
  · rw [List.getElem?_set_ne e, dC_get D hz, if_neg (fun q => e q.symm)]
theorem DB.splice (h : DB w b n D) {T L : Nat} (E : Nat → Int) (hfit : T + L ≤ n) : DB (w.setRow b ((dC n D).toArray.toList.take T ++ (dC L E ++ (dC n D).toArray.toList.drop (T + (dC L E).length))).toArray) b n (fun x => if T ≤ x ∧ x < T + L then E (x - T) else D x) := by
  have h' : w.heap[b]? = some (.cells (dC n D).toArray 5 (0, 0)) := h
  unfold DB
  rw [setRow_heap w b _ _ _ _ h']
  congr 3
  refine dC_ext (by simp [dC_len]; omega) fun z hz => ?_
  rw [dC_len]
  simp only [List.getElem?_append, List.length_take, dC_len, List.getElem?_take, List.getElem?_drop]
  rw [Nat.min_eq_left (by omega)]
  by_cases h1 : z < T
  · rw [if_pos h1, if_pos h1, dC_get D hz, if_neg (by omega)]
  · rw [if_neg h1]
    by_cases h2 : z - T < L
    · rw [if_pos h2, dC_get E h2, if_pos (by omega)]
    · rw [if_neg h2, show T + L + (z - T - L) = z by omega, dC_get D hz, if_neg (by omega)]
theorem DB.sl (h : DB w b n D) {o m c : Nat} (hm : o + m ≤ n) (hc : m ≤ c) : Sl w w.heap.size 1 (.slice (some ⟨b, o, none⟩) m c) m (dC m fun x => D (o + x)) := by
  refine ⟨by rw [dC_len, Nat.mul_one], some ⟨b, o, none⟩, c, rfl, hc, .inr ⟨b, o, rfl, h.lt, fun j u hj => ?_⟩⟩
  have hj' : j < m := by
    have := (List.getElem?_eq_some_iff.1 hj).1
    rwa [dC_len] at this
  rw [dC_get _ hj'] at hj
  injection hj with hj
  rw [← hj]
  exact h.cell (by omega)
theorem grown_setRow (w : World) (g : Nat) (cs : Array Value) : w.grownBy (w.setRow g cs) (some g) :=
  ⟨rfl, rfl, rfl, by simp [World.setRow], fun k _ hk => setRow_other w g k cs (fun e => hk (by rw [e]))⟩
theorem Row.setRow {base e size m c : Nat} {v : Value} {xs : List Value} (h : Row base e size w v m xs) (hc : c < base) (cs : Array Value) : Row base e size (w.setRow c cs) v m xs :=
  World.ownsRow.kept h (grown_setRow w c cs) (by
    cases hv : v.ownBlock with
    | none => exact .inl rfl
    | some g => exact .inr fun q => by have := (h.lt g hv).1; injection q with q; omega)
theorem Chn.setRow {base c : Nat} {p : Value} {l : List Sp} (h : Chn base w p l) (hc : c < base) (cs : Array Value) : Chn base (w.setRow c cs) p l := by
  obtain ⟨b, v, h1, h2, h3, h4, h5⟩ := h
  exact ⟨b, v, h1, h2, h3.grown (grown_setRow w c cs) (fun q => by injection q with q; omega) h4, by simpa [World.setRow] using h4, h5.setRow (by omega) cs⟩
end
/-- What the moves do is told by where each byte comes from. -/
theorem do_comp (D : Nat → Int) (f : Nat → Nat) (m : Mv) : (fun x => if m.t ≤ x ∧ x < m.t + m.l then D (f (m.f + (x - m.t))) else D (f x)) = fun x => D (doMv f m x) := by
  funext x
  unfold doMv
  split <;> rfl
section
variable {ls : Nat → List Sp} {n : Nat}
theorem pc_mem (h : WF ls n) {k : Nat} (hk : k < sumL ls n) : (atP (pcs ls n) k).l ≠ 0 ∧ (atP (pcs ls n) k).a + (atP (pcs ls n) k).l - 1 ∈ allB ls n := by
  have hm : atP (pcs ls n) k ∈ pcs ls n := atP_mem (by rw [pcs_len]; exact hk)
  have hpa := (insL_perm _).mem_iff.1 hm
  have hpos := h.posP _ hpa
  refine ⟨hpos, ?_⟩
  rw [← bytesP_all]
  unfold bytesP
  rw [List.mem_flatMap]
  exact ⟨_, hpa, mem_bts.2 ⟨by show (atP (pcs ls n) k).a ≤ _; omega, by show _ < (atP (pcs ls n) k).a + (atP (pcs ls n) k).l; omega⟩⟩
theorem move_bd (h : WF ls n) {X : Nat} (hX : ∀ x ∈ allB ls n, x < X) : ∀ m ∈ (PL ls n (sumL ls n)).mv, 1 ≤ m.l ∧ m.f + m.l ≤ X ∧ m.t ≤ m.f := by
  intro m hm
  obtain ⟨q, hq, rfl⟩ := PL_mem _ m hm
  obtain ⟨h1, h2⟩ := pc_mem h hq
  have h3 := hX _ h2
  have h4 := PL_le h hq
  exact ⟨by show 1 ≤ (atP (pcs ls n) q).l; omega, by show (atP (pcs ls n) q).a + (atP (pcs ls n) q).l ≤ X; omega, h4⟩
theorem rkA_le (h : WF ls n) {x : Nat} (hx : x ∈ allB ls n) : rkA ls n x ≤ x := by
  have hb : x ∈ bytesP (pcs ls n) := by
    have := (bytesP_perm (insL_perm (allP ls n))).mem_iff (a := x)
    rw [bytesP_all] at this
    exact this.2 hx
  unfold bytesP at hb
  rw [List.mem_flatMap] at hb
  obtain ⟨p, hp, hxp⟩ := hb
  obtain ⟨k, hk, rfl⟩ := mem_atP hp
  rw [pcs_len] at hk
  have h1 := mem_bts.1 hxp
  simp only at h1
  have e : x = (atP (pcs ls n) k).a + (x - (atP (pcs ls n) k).a) := by omega
  have h2 := rank_at h.ends (k := k) (q := x - (atP (pcs ls n) k).a) (by rw [pcs_len]; exact hk) (by omega)
  rw [← e] at h2
  rw [rkA_pcs, h2]
  have := PL_le h hk
  omega
theorem ho_now (h : WF ls n) : ∀ k, k ≤ sumL (nowL ls n) n → HoN (atP (pcs (nowL ls n) n)) k = (0, 0, lenN (atP (pcs (nowL ls n) n)) k)
  | 0, _ => rfl
  | k + 1, hk => by
    have ih := ho_now h k (by omega)
    have ha := now_at h (show k < sumL (nowL ls n) n by omega)
    unfold HoN
    rw [ih, ha]
    simp only [Nat.lt_irrefl, if_false]
    rfl
theorem now_sum (ls : Nat → List Sp) : sumL (nowL ls 3) 3 ≤ sumL ls 3 := by
  rw [sumL3, sumL3]
  have key : ∀ o, (nowL ls 3 o).length ≤ (ls o).length := fun o => by
    have h1 := join_len (plL ls 3 o)
    rw [plL_len] at h1
    exact h1
  have := key 0
  have := key 1
  have := key 2
  omega
theorem now_bd (h : WF ls n) (hb : ∀ o, o < n → BdS (ls o)) : ∀ o, o < n → BdS (nowL ls n o) := fun o ho => (PL_bd h hb _ (Nat.le_refl _) o ho).join
theorem now_bytes (h : WF ls n) {o : Nat} (ho : o < n) : bytes (nowL ls n o) = (bytes (ls o)).map (rkA ls n) := by
  unfold nowL
  rw [bytes_join, plL_bytes h ho]
theorem bytes_le_allB {o : Nat} : ∀ {n : Nat}, o < n → (bytes (ls o)).length ≤ (allB ls n).length
  | n + 1, ho => by
    unfold allB
    rw [List.length_append]
    by_cases e : o = n
    · subst e; omega
    · have h1 : o < n := by omega
      have := bytes_le_allB h1
      omega
theorem allB_len (h : WF ls n) {X : Nat} (hX : ∀ x ∈ allB ls n, x < X) : (allB ls n).length ≤ X := by
  rw [← lenN_total]
  cases hN : sumL ls n with
  | zero => exact Nat.zero_le _
  | succ k =>
    have hk : k < sumL ls n := by omega
    obtain ⟨h1, h2⟩ := pc_mem h hk
    have h3 := hX _ h2
    have h4 := PL_le h hk
    have e : lenN (atP (pcs ls n)) (k + 1) = lenN (atP (pcs ls n)) k + (atP (pcs ls n) k).l := rfl
    omega
theorem mem_allB {o x : Nat} : ∀ {n : Nat}, o < n → x ∈ bytes (ls o) → x ∈ allB ls n
  | n + 1, ho, hx => by
    unfold allB
    rw [List.mem_append]
    by_cases e : o = n
    · subst e; exact .inr hx
    · exact .inl (mem_allB (by omega) hx)
end
end Go.Proofs.Ytfnaoekkdgndkaa
