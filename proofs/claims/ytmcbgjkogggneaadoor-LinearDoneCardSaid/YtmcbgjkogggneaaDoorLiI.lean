/- The order in which calls ended: ByEnd, whole. -/
import Derived.Test.YtmcbgjkogggneaaDoorLiH
import Derived.Lib.Builder
namespace Go.Proofs.YtmcbgjkogggneaaDoor
set_option maxRecDepth 100000
set_option linter.unusedVariables false
set_option linter.unusedSimpArgs false
open Go.RowKit
theorem Sw.inj {α : Type} {b : Nat} {f g : Nat → α} (h : Sw 0 b f g) (hf : ∀ p q, p < b → q < b → p ≠ q → f p ≠ f q) : ∀ p q, p < b → q < b → p ≠ q → g p ≠ g q := by
  induction h with
  | refl => exact hf
  | step i j _ _ hi _ hj ih =>
    intro p q hp hq hne
    unfold swp
    repeat' split
    all_goals first | omega | (apply ih <;> omega)
/-- The indexes of the calls that ended. -/
def musL (cv : Nat → CallV) (j : Nat) : List Nat := (List.range j).filter fun k => decide (0 ≤ (cv k).fin)
theorem musL_succ (cv : Nat → CallV) (j : Nat) : musL cv (j + 1) = musL cv j ++ (if 0 ≤ (cv j).fin then [j] else []) := by
  unfold musL
  rw [List.range_succ, List.filter_append]
  congr 1
  simp only [List.filter_cons, List.filter_nil, decide_eq_true_eq]
theorem musL_len (cv : Nat → CallV) (j : Nat) : (musL cv j).length ≤ j := by
  unfold musL
  refine Nat.le_trans (List.length_filter_le _ _) ?_
  simp
theorem musL_mem {cv : Nat → CallV} {j x : Nat} (h : x ∈ musL cv j) : x < j ∧ 0 ≤ (cv x).fin := by
  unfold musL at h
  rw [List.mem_filter, List.mem_range] at h
  exact ⟨h.1, of_decide_eq_true h.2⟩
def musF (cv : Nat → CallV) (n : Nat) : Nat → El := fun k => (musL cv n).getD k 0
theorem musF_at {cv : Nat → CallV} {n k : Nat} (h : k < (musL cv n).length) : (musL cv n)[k]? = some (musF cv n k) := by
  unfold musF
  rw [List.getD_eq_getElem?_getD, List.getElem?_eq_getElem h]
  rfl
theorem musF_ok {cv : Nat → CallV} {n k : Nat} (h : k < (musL cv n).length) : musF cv n k < n ∧ 0 ≤ (cv (musF cv n k)).fin := musL_mem (List.mem_of_getElem? (musF_at h))
theorem musF_up {cv : Nat → CallV} {n i k : Nat} (h : k < i) (hi : i < (musL cv n).length) : musF cv n k < musF cv n i := by
  have hp : (musL cv n).Pairwise (· < ·) := List.Pairwise.sublist List.filter_sublist List.pairwise_lt_range
  have h1 := musF_at (cv := cv) (n := n) (show k < (musL cv n).length by omega)
  have h2 := musF_at (cv := cv) (n := n) hi
  obtain ⟨a1, b1⟩ := List.getElem?_eq_some_iff.1 h1
  obtain ⟨a2, b2⟩ := List.getElem?_eq_some_iff.1 h2
  rw [← b1, ← b2]
  exact List.pairwise_iff_getElem.1 hp k i a1 a2 h
def leE (cv : Nat → CallV) (x y : El) : Prop := (cv x).fin < (cv y).fin ∨ ((cv x).fin = (cv y).fin ∧ x ≤ y)
theorem ordE (cv : Nat → CallV) : Ord (leE cv) := ⟨fun {x y z} h1 h2 => by
    unfold leE at *
    have hx : (x : Nat) = x := rfl
    rcases h1 with h1 | ⟨h1, h3⟩ <;> rcases h2 with h2 | ⟨h2, h4⟩
    · exact .inl (by omega)
    · exact .inl (by omega)
    · exact .inl (by omega)
    · exact .inr ⟨by omega, Nat.le_trans h3 h4⟩, fun x y => by
    unfold leE
    rcases Nat.le_total x y with h | h
    · by_cases e : (cv y).fin < (cv x).fin
      · exact .inr (.inl e)
      · by_cases e2 : (cv x).fin = (cv y).fin
        · exact .inl (.inr ⟨e2, h⟩)
        · exact .inl (.inl (by omega))
    · by_cases e : (cv x).fin < (cv y).fin
      · exact .inl (.inl e)
      · by_cases e2 : (cv y).fin = (cv x).fin
        · exact .inr (.inr ⟨e2, h⟩)
        · exact .inr (.inl (by omega))⟩
def RE (n : Nat) (x y : El) : Prop := y < x ∧ x < n
theorem cfE (cv : Nat → CallV) (n : Nat) : ∀ x y, RE n x y → (sg (cv x).fin (cv y).fin < 0 ↔ ¬ leE cv y x) := by
  intro x y ⟨h1, h2⟩
  unfold sg leE
  have h3 : y ≤ x := Nat.le_of_lt h1
  constructor
  · intro h
    split at h
    · rename_i h4
      rintro (h5 | ⟨h5, _⟩) <;> omega
    · split at h <;> omega
  · intro h
    have h4 : (cv x).fin < (cv y).fin := by
      by_cases e : (cv y).fin < (cv x).fin
      · exact absurd (.inl e) h
      · by_cases e2 : (cv y).fin = (cv x).fin
        · exact absurd (.inr ⟨e2, h3⟩) h
        · omega
    rw [if_pos h4]
    decide
def icells (m : Nat) (g : Nat → El) : List Value := (List.range m).map fun k => enc (g k)
theorem icells_len (m : Nat) (g : Nat → El) : (icells m g).length = m := by unfold icells; simp
theorem icells_get {m : Nat} (g : Nat → El) {k : Nat} (h : k < m) : (icells m g)[k]? = some (enc (g k)) := by
  unfold icells
  rw [List.getElem?_map, List.getElem?_range h]
  rfl
theorem row_arr {base e m : Nat} {w : World} {v : Value} {l : List Nat} (f : Nat → El) (h : Row base e 1 w v m (l.map enc)) (hf : ∀ k, k < m → l[k]? = some (f k)) (hn : 0 < m) : ∃ g cap, v = .slice (some ⟨g, 0, none⟩) m cap ∧ m ≤ cap ∧ base ≤ g ∧ Arr w g m f := by
  have hlt := h.lt
  rcases h.2 with ⟨_, h0⟩ | ⟨g, cap, cur, hv, hg, hh, hnc, _⟩
  · omega
  · subst hv
    refine ⟨g, cap, rfl, hnc, hg, fun k hk => ?_, fun k => Lib.frozen_of_heap hh k, (hlt g rfl).2⟩
    have := World.ownsRow.cells h (g := g) rfl k _ (by rw [List.getElem?_map, hf k hk]; rfl)
    rw [add_plain, Nat.zero_add] at this
    exact this
theorem arr_sl {w : World} {b n cap : Nat} {f : Nat → El} (h : Arr w b n f) (hc : n ≤ cap) : Sl w w.heap.size 1 (.slice (some ⟨b, 0, none⟩) n cap) n (icells n f) := by
  refine ⟨by rw [icells_len, Nat.mul_one], _, cap, rfl, hc, .inr ⟨b, 0, rfl, h.lt, fun j u hj => ?_⟩⟩
  have hjn : j < n := by
    have := (List.getElem?_eq_some_iff.1 hj).1
    rwa [icells_len] at this
  rw [icells_get f hjn] at hj
  injection hj with hj
  subst hj
  rw [Nat.zero_add]
  exact h.cell j hjn
theorem info_int : (Tryd.prog.info? 3).map (fun i => (i.zero, i.size, i.bytes)) = some (some (.int .i64 0), 1, 8) := by kernel_rfl
/-- What ByEnd hands back. -/
def Ended (n : Nat) (cv : Nat → CallV) (w : World) (e : Ending) (w' : World) : Prop :=
  ∃ (v' : Value) (g : Nat → Nat), e = .returned v' ∧ Sl w' w'.heap.size 1 v' (musL cv n).length (icells (musL cv n).length g) ∧ (∀ k, k < (musL cv n).length → g k < n ∧ 0 ≤ (cv (g k)).fin) ∧
    (∀ k, k + 1 < (musL cv n).length → (cv (g k)).fin < (cv (g (k + 1))).fin ∨ ((cv (g k)).fin = (cv (g (k + 1))).fin ∧ g k < g (k + 1))) ∧ Below w.heap.size w w'
theorem less_enter (args : Array Value) (W : World) : (callFunc 31 args).run Tryd.prog W = .ok (.enter 31 args) W := by kernel_rfl
set_option maxHeartbeats 4000000 in
theorem byEnd_any (n : Nat) (cv : Nat → CallV) (v : Value) (B : Nat) (w : World) (h : Sl w B 6 v n (ccells n cv)) (hB : B ≤ w.heap.size) (hn : n ≤ 20) :
    Calls Tryd.prog 20 #[v] w (Ended n cv w) := by
  obtain ⟨a, cap, rfl, hcap⟩ := h.form
  have hA := (Below.refl w.heap.size w).alloc (Nat.le_refl _) (.cells #[.slice a n cap] 22)
  obtain ⟨wb, hwb⟩ : ∃ z : World, z = w.alloc (.cells #[.slice a n cap] 22) := ⟨_, rfl⟩
  rw [← hwb] at hA
  have hsz : wb.heap.size = w.heap.size + 1 := by rw [hwb]; simp
  have kp := (Cells.new w [.slice a n cap] 22) 0 _ rfl
  have kp : wb.cell? ⟨w.heap.size, 0, none⟩ = some (.slice a n cap) := by rw [hwb]; exact kp
  have HS := Lib.hid (fun (W : World) (hW : Below wb.heap.size wb W) => h.below ((hA.trans (hW.mono hA.size)).mono hB))
  have HA := Lib.hid hA
  have HP := Lib.hid (fun (W : World) (hW : Below (w.heap.size + 1) wb W) => (hW.cell (p := ⟨w.heap.size, 0, none⟩) (Nat.lt_succ_self _)).trans kp)
  have hmf : ∀ (fn : Fn) (first cap : Array Value) (w : World), (Instr.makeFunc fn first cap).run Tryd.prog w = .ok (.func fn first cap) w := fun _ _ _ _ => rfl
  have HSZ := Lib.hid hsz
  clear h hA hsz
  go_enter Tryd.func20, Tryd.ntmps20
  go_wp2_with (fail)
  rw [← hwb]
  clear hwb
  go_loopw [3, 8] (fun v i wr => ∃ j : Nat, i = .int .i64 j ∧ j ≤ n ∧ Hid (Row wb.heap.size 3 1 wr v (musL cv j).length ((musL cv j).map enc)) ∧ Hid (Below wb.heap.size wb wr)) (fun _ i _ => n - (intOf i).toNat)
  case atStart => exact ⟨0, rfl, Nat.zero_le _, Lib.hid Row.nil, Lib.hid (Below.refl _ _)⟩
  case round =>
    obtain ⟨j, rfl, hj, HR, HB1⟩ := hrel
    obtain ⟨wo, rfl⟩ : ∃ z : World, z = wr := ⟨_, rfl⟩
    by_cases hlt : j < n
    rotate_left
    · have d1 : decide (j < n) = false := decide_eq_false hlt
      have d2 : decide ((j : Int) < (n : Int)) = false := decide_eq_false (by omega)
      obtain rfl : j = n := by omega
      have hml := musL_len cv j
      by_cases h0 : (musL cv j).length = 0
      · obtain ⟨ba, bc, hbv, hbc⟩ := HR.out.form
        have HSL := Lib.hid HR.out.sl
        subst hbv
        have HM := Lib.hid h0
        rw [h0] at HSL
        rw [h0]
        have HB2 := Lib.hid (HA.out.trans (HB1.out.mono HA.out.size))
        have hcn : (musL cv j).map enc = [] := by rw [List.eq_nil_of_length_eq_zero h0]; rfl
        rw [hcn] at HSL
        clear h0 hcn HR hlt
        go_wp2_with (fail)
        refine (sort_zero ba bc _ wo).mono ?_
        rintro e w2 ⟨rfl, rfl⟩
        go_wp2_with (fail)
        go_ret
        refine ⟨_, fun _ => 0, rfl, ?_, ?_, ?_, HB2.out⟩
        · rw [HM.out]; exact HSL.out
        · rw [HM.out]; exact fun k hk => absurd hk (Nat.not_lt_zero _)
        · rw [HM.out]; exact fun k hk => absurd hk (Nat.not_lt_zero _)
      · obtain ⟨g, gc, rfl, hgc, hg1, hA⟩ := row_arr (musF cv j) HR.out (fun k hk => musF_at hk) (by omega)
        have hgs := hA.lt
        have HBW := Lib.hid (fun (W : World) (hW : Gr g wo W) => (HB1.out.mono (show w.heap.size + 1 ≤ wb.heap.size by have := HSZ.out; omega)).trans (hW.below (B := w.heap.size + 1) (by have := HSZ.out; omega) (by have := HSZ.out; have := HB1.out.size; omega)))
        have HBV := Lib.hid (fun (W : World) (hW : Gr g wo W) => HB1.out.trans (hW.below (B := wb.heap.size) hg1 (by have := HB1.out.size; omega)))
        have hC : CmpOK (RE j) 31 #[.pointer (some ⟨w.heap.size, 0, none⟩)] (fun x y => sg (cv x).fin (cv y).fin) g wo := by
          intro W hW x y hR
          have hb := HBV.out W hW
          have hbs := hb.size
          exact less_any j cap a cv w.heap.size x y B W (HP.out W (HBW.out W hW)) (by have := HSZ.out; omega) (HS.out W hb) (by have := HSZ.out; omega) hR.2 (Nat.lt_trans hR.1 hR.2)
        have HSO := Lib.hid (sort20 g (musL cv j).length gc 31 #[.pointer (some ⟨w.heap.size, 0, none⟩)] (fun x y => sg (cv x).fin (cv y).fin) (leE cv) (RE j) (musF cv j) wo hA (by omega) (by omega) (ordE cv) (cfE cv j) (fun i k h1 h2 => ⟨musF_up h1 h2, (musF_ok h2).1⟩) hC less_enter)
        have HB2 := Lib.hid (HA.out.trans (HB1.out.mono HA.out.size))
        obtain ⟨m, hm0⟩ : ∃ m, (musL cv j).length = m := ⟨_, rfl⟩
        rw [hm0] at HSO hgc h0 hml
        have HM := Lib.hid hm0
        rw [hm0]
        clear hA hC HR hlt hm0
        go_wp2_with (fail)
        refine HSO.out.mono ?_
        rintro e w2 ⟨rfl, ⟨g2, hs, ht, ha⟩, hg⟩
        have HSW := Lib.hid hs
        have HT := Lib.hid ht
        have HA2 := Lib.hid (arr_sl ha hgc)
        have HB3 := Lib.hid (HB2.out.trans (hg.below (B := w.heap.size) (by have := HSZ.out; omega) (by have := HB2.out.size; omega)))
        clear hs ht ha hg HSO
        go_wp2_with (fail)
        go_ret
        refine ⟨_, g2, rfl, ?_, ?_, ?_, HB3.out⟩
        · rw [HM.out]; exact HA2.out
        · rw [HM.out]
          exact fun k hk => HSW.out.all (fun x => x < j ∧ 0 ≤ (cv x).fin) (fun q _ hq => musF_ok (by rw [HM.out]; exact hq)) k (Nat.zero_le _) hk
        · rw [HM.out]
          intro k hk
          have h1 := HT.out k (k + 1) (Nat.zero_le _) (Nat.lt_succ_self _) hk
          rcases h1 with h1 | ⟨h1, h2⟩
          · exact .inl h1
          · refine .inr ⟨h1, Nat.lt_of_le_of_ne h2 (HSW.out.inj (fun p q hp hq hne => ?_) k (k + 1) (by omega) hk (by omega))⟩
            rcases Nat.lt_or_gt_of_ne hne with h | h
            · exact Nat.ne_of_lt (musF_up h (by rw [HM.out]; exact hq))
            · exact Nat.ne_of_gt (musF_up h (by rw [HM.out]; exact hp))
    have d1 : decide (j < n) = true := decide_eq_true hlt
    have d2 : decide ((j : Int) < (n : Int)) = true := decide_eq_true (by omega)
    have q1 : IntKind.i64.wrap ((j : Int) + 1) = (j : Int) + 1 := IntWalk.i64_in _ (by omega)
    have hbi : (j : Int) < (n : Int) := by omega
    obtain ⟨b, off, rfl, hk0⟩ := sl_cells (HS.out wo HB1.out) (by omega)
    have hc := fun (q : Nat) (hq : q < 6) (u : Value) (hu : (cv j).cells[q]? = some u) => hk0 (j * 6 + q) u ((ccells_get cv hlt q hq).trans hu)
    have c0 := hc 0 (by omega) _ rfl
    have c1 := hc 1 (by omega) _ rfl
    have c2 := hc 2 (by omega) _ rfl
    have c3 := hc 3 (by omega) _ rfl
    have c4 := hc 4 (by omega) _ rfl
    have c5 := hc 5 (by omega) _ rfl
    rw [Nat.add_zero] at c0
    rw [← Nat.add_assoc] at c1 c2 c3 c4 c5
    have HM := Lib.hid (fun W => must_any (cv j) W)
    have hms := musL_succ cv j
    have hml := musL_len cv j
    have hA2 := (Below.refl wo.heap.size wo).alloc (Nat.le_refl _) (.cells #[.int .i64 (cv j).kind, .string (cv j).name, .bool (cv j).told, .slice (cv j).na (cv j).nn (cv j).nc, .int .i64 (cv j).beg, .int .i64 (cv j).fin] 32)
    have hA3 := hA2.size
    unfold CallV.agg at HM
    go_wp2_with (fail)
    refine (HM.out _).mono ?_
    rintro e w2 ⟨rfl, hb2⟩
    have hb3 : Below wo.heap.size wo w2 := hA2.trans (hb2.mono hA3)
    have HR2 := Lib.hid (HR.out.below hb3)
    have HB2 := Lib.hid (HB1.out.trans (hb3.mono HB1.out.size))
    clear hA2 hb2 hb3 HM HR c0 c1 c2 c3 c4 c5 hc hk0
    by_cases hf : 0 ≤ (cv j).fin
    · have d3 : decide (0 ≤ (cv j).fin) = true := decide_eq_true hf
      rw [if_pos hf] at hms
      have HMS := Lib.hid hms
      rw [d3]
      obtain ⟨ba, bc, hbv, hbc⟩ := HR2.out.form
      subst hbv
      have hA4 := (Below.refl w2.heap.size w2).alloc (Nat.le_refl _) (.cells #[.int .i64 (j : Int)] 3)
      have HR3 := Lib.hid (HR2.out.below hA4)
      have hz2 := HB2.out.size
      have HB3 := Lib.hid (HB2.out.trans (hA4.mono hz2))
      clear hA4 hms hf d3 HR2 HB2
      obtain ⟨m, hm0⟩ : ∃ m, (musL cv j).length = m := ⟨_, rfl⟩
      rw [hm0] at HR3 hml
      have HM := Lib.hid hm0
      rw [hm0]
      clear hm0
      go_wp2_with (at_builtin; refine append_row Tryd.underlying23 info_int rfl (by decide) rfl _ _ rfl rfl HR3.out rfl (Sl.new _ 1 1 [.int .i64 (j : Int)] 3 rfl) (by intro u hu; simp at hu; subst hu; rfl) ?_ ?_ ?_ ?_; omega; omega; (simp; omega))
      intro v7 w7 hr7 hb7
      have HR7 : Hid (Row wb.heap.size 3 1 w7 v7 (musL cv (j + 1)).length ((musL cv (j + 1)).map enc)) := Lib.hid (by
        rw [HMS.out, List.map_append, List.length_append, HM.out]
        exact hr7)
      have HB7 := Lib.hid (HB3.out.trans hb7)
      clear hr7 hb7
      go_wp2_with (fail)
      go_roundw
      case rel => exact ⟨j + 1, rfl, by omega, HR7, HB7⟩
      case measure => simp [intOf] <;> omega
    · have d3 : decide (0 ≤ (cv j).fin) = false := decide_eq_false hf
      rw [if_neg hf, List.append_nil] at hms
      rw [← hms] at HR2
      have HR7 := HR2
      rw [d3]
      clear hms hf d3
      go_wp2_with (fail)
      go_roundw
      case rel => exact ⟨j + 1, rfl, by omega, HR7, HB2⟩
      case measure => simp [intOf] <;> omega
end Go.Proofs.YtmcbgjkogggneaaDoor
