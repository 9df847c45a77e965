/- Lists of floats: in memory, cloned, sorted. -/
import Derived.Test.YtpjjfkogcfdnkaaSrI
import Derived.Test.YtpjjfkogcfdnkaaSls
import Derived.Test.YtpjjfkogcfdnkaaSlO
import Derived.Test.YtpjjfkogcfdnkaaRatJ
import Derived.WalkSpells
import Derived.WalkLawsBesides
namespace Go.Proofs.Ytpjjfkogcfdnkaa
set_option maxRecDepth 100000
set_option linter.unusedVariables false
set_option linter.unusedSimpArgs false
open Go.RowKit Go.ChangeShapes Go.WideShapes Go.Deep
def fcells (n : Nat) (f : Nat → El) : List Value := (List.range n).map fun k => enc (f k)
theorem fcells_len (n : Nat) (f : Nat → El) : (fcells n f).length = n := by unfold fcells; simp
theorem fcells_get {n : Nat} (f : Nat → El) {k : Nat} (h : k < n) : (fcells n f)[k]? = some (enc (f k)) := by
  unfold fcells
  rw [List.getElem?_map, List.getElem?_range h]
  rfl
theorem fcells_one (n : Nat) (f : Nat → El) : ∀ u ∈ fcells n f, u.oneCell' = true := by
  intro u hu
  unfold fcells at hu
  rw [List.mem_map] at hu
  obtain ⟨k, _, rfl⟩ := hu
  rfl
theorem fcells_succ (n : Nat) (f : Nat → El) : fcells (n + 1) f = fcells n f ++ [enc (f n)] := by
  unfold fcells
  rw [List.range_succ, List.map_append]
  rfl
theorem fcells_congr {n : Nat} {f g : Nat → El} (h : ∀ k, k < n → f k = g k) : fcells n f = fcells n g := by
  unfold fcells
  exact List.map_congr_left fun k hk => by rw [h k (List.mem_range.1 hk)]
theorem info_f64 : (Try.prog.info? 23).map (fun i => (i.zero, i.size, i.bytes)) = some (some (.float .f64 0), 1, 8) := by kernel_rfl
theorem float_trod {H : Type} {ec : TypeId × Value → H} {w : World} {base : Nat} {spare : Nat → Bool} {held : Bool} {fuel : Nat} {cs : List Value} {x : DataW H × List MemPlace} (h : DataW.trod ec Try.prog w base spare held fuel 23 cs = some x) : ∃ b : El, cs = [enc b] := by
  cases fuel with
  | zero => simp [DataW.trod] at h
  | succ n =>
    unfold DataW.trod at h
    rw [Try.underlying23] at h
    have : ∃ b : Nat, cs = [.float .f64 b] ∧ (Lit.float .f64 b).wf = true := by
      split at h <;> simp_all
    obtain ⟨b, hb, hw⟩ := this
    exact ⟨⟨b, by simpa [Lit.wf] using hw⟩, hb⟩
theorem floats_build : ∀ (n : Nat) (cs : List Value), cs.length = n → (∀ i, i < n → ∃ x : El, (cs.drop i).take 1 = [enc x]) → ∃ f, cs = fcells n f := by
  intro n cs hl h
  refine ⟨fun k => if hk : k < n then (h k hk).choose else ⟨0, by decide⟩, ?_⟩
  refine List.ext_getElem? fun k => ?_
  by_cases hk : k < n
  · rw [fcells_get _ hk]
    simp only [hk, dif_pos]
    have h1 := (h k hk).choose_spec
    generalize (h k hk).choose = y at h1 ⊢
    rw [List.drop_eq_getElem_cons (by omega), List.take_succ_cons, List.take_zero] at h1
    injection h1 with h1
    rw [List.getElem?_eq_getElem (by omega), h1]
  · rw [List.getElem?_eq_none (by omega), List.getElem?_eq_none (by rw [fcells_len]; omega)]
theorem floats_open {H : Type} {ec : TypeId × Value → H} {w : World} {base : Nat} {spare : Nat → Bool} {held : Bool} {fuel : Nat} {v : Value} {x : DataW H × List MemPlace} (h : DataW.trod ec Try.prog w base spare held fuel 32 [v] = some x) :
    ∃ n f, Sl w w.heap.size 1 v n (fcells n f) ∧ n ≤ maxLen := by
  obtain ⟨n, cs, hs, hn, hall⟩ := sl_open (e := 23) (size := 1) Try.underlying32 (by kernel_rfl) (by decide) h
  have hl : cs.length = n := by have := hs.1; omega
  obtain ⟨f, hf⟩ := floats_build n cs hl fun i hi => by
    obtain ⟨_, _, ht⟩ := hall i hi
    rw [Nat.mul_one] at ht
    exact float_trod ht
  subst hf
  exact ⟨n, f, hs, hn⟩
section
variable {α : Type}
theorem cnt_front (p : α → Bool) (f : Nat → α) : ∀ n, cnt p f (n + 1) = (if p (f 0) then 1 else 0) + cnt p (fun k => f (k + 1)) n
  | 0 => by rw [cnt, cnt, cnt]; omega
  | n + 1 => by
    rw [cnt, cnt_front p f n, cnt]
    omega
/-- Turned round there are as many. -/
theorem cnt_rev (p : α → Bool) : ∀ (f : Nat → α) (n : Nat), cnt p f n = cnt p (fun k => f (n - 1 - k)) n
  | _, 0 => rfl
  | f, n + 1 => by
    rw [cnt_front p (fun k => f (n + 1 - 1 - k)) n, cnt]
    have h1 := cnt_rev p f n
    rw [h1, cnt_congr p (f := fun k => f (n + 1 - 1 - (k + 1))) (g := fun k => f (n - 1 - k)) n fun k hk => by
      show f (n + 1 - 1 - (k + 1)) = f (n - 1 - k)
      congr 1; omega]
    show _ + _ = (if p (f (n + 1 - 1 - 0)) = true then 1 else 0) + _
    rw [show n + 1 - 1 - 0 = n by omega]
    omega
end
theorem sl_cells {w : World} {B size n cap : Nat} {a : Option Addr} {cs : List Value} (h : Sl w B size (.slice a n cap) n cs) (hn : 0 < n) : ∃ b off, a = some ⟨b, off, none⟩ ∧ ∀ j u, cs[j]? = some u → w.cell? ⟨b, off + j, none⟩ = some u := by
  obtain ⟨b, off, cap', he, _, _, hk⟩ := h.pos hn
  injection he with he1 he2 he3
  exact ⟨b, off, he1, hk⟩
theorem sl_same {w : World} {B size n cap b off : Nat} {cs : List Value} (h : Sl w B size (.slice (some ⟨b, off, none⟩) n cap) n cs) (hn : 0 < n) : ∀ j u, cs[j]? = some u → w.cell? ⟨b, off + j, none⟩ = some u := by
  obtain ⟨b', off', he, hk⟩ := sl_cells h hn
  injection he with he
  injection he with h1 h2
  subst h1 h2
  exact hk
/-! ### the order -/
def leF (x y : El) : Prop := cmpF x.1 y.1 ≤ 0
theorem ordF : Ord leF := ⟨fun {x y z} h1 h2 => by
    unfold leF at *
    have := cmpF_le_trans x.1 y.1 z.1
    omega, fun x y => by
    unfold leF
    have := cmpF_anti x.1 y.1
    omega⟩
theorem cf_le (x y : El) : cmpF x.1 y.1 < 0 ↔ ¬ leF y x := by
  unfold leF
  have := cmpF_anti x.1 y.1
  omega
theorem cmp_ok (b : Nat) (w : World) : CmpOK 15 #[] (fun x y => cmpF x.1 y.1) b w := by
  intro W _ x y
  refine (compare_any x.1 y.1 x.2 y.2 W).mono ?_
  rintro e w' ⟨rfl, rfl⟩
  exact ⟨rfl, Below.refl _ _⟩
theorem cmp_enter (args : Array Value) (W : World) : (callFunc 15 args).run Try.prog W = .ok (.enter 15 args) W := by kernel_rfl
/-! ### no element -/
theorem insertion_zero (a : Option Addr) (cap : Nat) (fv : Value) (w : World) : Calls Try.prog 42 #[.slice a 0 cap, .int .i64 0, .int .i64 0, fv] w fun e w' => e = .returned (.tuple #[]) ∧ w = w' := by
  go_enter Try.func42, Try.ntmps42
  go_wp2_with (fail)
  refine wp_loop_rounds 1 ?_
  rw [rounds_succ]
  go_wp2_with (fail)
  go_end0
  exact ⟨rfl, rfl⟩
theorem stable_zero (a : Option Addr) (cap : Nat) (fv : Value) (w : World) : Calls Try.prog 39 #[.slice a 0 cap, .int .i64 0, fv] w fun e w' => e = .returned (.tuple #[]) ∧ w = w' := by
  go_enter Try.func39, Try.ntmps39
  go_wp2_with (fail)
  refine wp_loop_rounds 1 ?_
  rw [rounds_succ]
  go_wp2_with (fail)
  refine (insertion_zero a cap fv w).mono ?_
  rintro e w' ⟨rfl, rfl⟩
  go_wp2_with (fail)
  refine wp_loop_rounds 1 ?_
  rw [rounds_succ]
  go_wp2_with (fail)
  go_end0
  exact ⟨rfl, rfl⟩
theorem sortStable_zero (a : Option Addr) (cap : Nat) (fv : Value) (w : World) : Calls Try.prog 32 #[.slice a 0 cap, fv] w fun e w' => e = .returned (.tuple #[]) ∧ w = w' := by
  go_enter Try.func32, Try.ntmps32
  go_wp2_with (fail)
  refine (stable_zero a cap fv w).mono ?_
  rintro e w' ⟨rfl, rfl⟩
  go_wp2_with (fail)
  go_end0
  exact ⟨rfl, rfl⟩
/-! ### Clone -/
theorem Row.arr {base e : Nat} {w : World} {v : Value} {n : Nat} {f : Nat → El} (h : Row base e 1 w v n (fcells n f)) (hn : 0 < n) : ∃ g cap, v = .slice (some ⟨g, 0, none⟩) n cap ∧ n ≤ cap ∧ base ≤ g ∧ Arr w g n f := by
  have hlt := h.lt
  have hsl := h.sl
  rcases h.2 with ⟨_, h0⟩ | ⟨g, cap, cur, hv, hg, hh, hnc, _⟩
  · omega
  · subst hv
    refine ⟨g, cap, rfl, hnc, hg, fun k hk => ?_, fun k => Lib.frozen_of_heap hh k, (hlt g rfl).2⟩
    have := World.ownsRow.cells h (g := g) rfl k _ (fcells_get f hk)
    rw [add_plain, Nat.zero_add] at this
    exact this
set_option maxHeartbeats 1000000 in
theorem fclone_any (n : Nat) (f : Nat → El) (v : Value) (B : Nat) (w : World) (h : Sl w B 1 v n (fcells n f)) (hB : B ≤ w.heap.size) (hn : n ≤ 1000000) :
    Calls Try.prog 31 #[v] w fun e w' => ∃ v', e = .returned v' ∧ Row w.heap.size 23 1 w' v' n (fcells n f) ∧ Below w.heap.size w w' := by
  obtain ⟨a, cap, rfl, hcap⟩ := h.form
  have heq := fun W => Lib.run_eql_slice_nil (P := Try.prog) W 32 23 a n cap 0 0 rfl
  cases a with
  | none =>
    have hn0 : n = 0 := by
      obtain ⟨_, a', cap', hv, _, hor⟩ := h
      injection hv with ha
      subst ha
      rcases hor with ⟨h0, _⟩ | ⟨b, off, hb, _⟩
      · exact h0
      · cases hb
    subst hn0
    clear h
    go_enter Try.func31, Try.ntmps31
    go_wp2
    go_ret
    exact ⟨_, rfl, Row.nil, Below.refl _ _⟩
  | some a =>
    have hA1 := (Below.refl w.heap.size w).alloc (Nat.le_refl _) (.cells #[] 23)
    have HS := Lib.hid (h.below (hA1.mono hB))
    have HR := Lib.hid (Row.empty (e := 23) (size := 1) w (Nat.le_refl w.heap.size))
    have HA1 := Lib.hid hA1
    clear h hA1
    go_enter Try.func31, Try.ntmps31
    go_wp2_with (at_builtin; refine append_row Try.underlying32 info_f64 rfl (by decide) rfl _ _ rfl rfl HR.out rfl HS.out (fcells_one n f) ?_ ?_ ?_ ?_; omega; omega; (simp))
    intro v' w1 hr hb
    have HR2 : Hid (Row w.heap.size 23 1 w1 v' n (fcells n f)) := Lib.hid (by simpa using hr)
    have HB : Hid (Below w.heap.size w w1) := Lib.hid (HA1.out.trans hb)
    clear hr hb
    go_wp2
    go_ret
    exact ⟨_, rfl, HR2.out, HB.out⟩
/-! ### ratio.Sort -/
def Sorted_p (n : Nat) (f : Nat → El) (w : World) (e : Ending) (w' : World) : Prop :=
  ∃ v' g, e = .returned v' ∧ Sl w' w'.heap.size 1 v' n (fcells n g) ∧ Srt leF g 0 n ∧ Sw 0 n f g ∧ Below w.heap.size w w'
theorem Arr.sl {w : World} {b n cap : Nat} {f : Nat → El} (h : Arr w b n f) (hc : n ≤ cap) : Sl w w.heap.size 1 (.slice (some ⟨b, 0, none⟩) n cap) n (fcells n f) := by
  refine ⟨by rw [fcells_len, Nat.mul_one], _, cap, rfl, hc, .inr ⟨b, 0, rfl, h.lt, fun j u hj => ?_⟩⟩
  have hjn : j < n := by
    have := (List.getElem?_eq_some_iff.1 hj).1
    rwa [fcells_len] at this
  rw [fcells_get f hjn] at hj
  injection hj with hj
  subst hj
  rw [Nat.zero_add]
  exact h.cell j hjn
set_option maxHeartbeats 1000000 in
theorem sort_any (n : Nat) (f : Nat → El) (v : Value) (B : Nat) (w : World) (h : Sl w B 1 v n (fcells n f)) (hB : B ≤ w.heap.size) (hn : n ≤ 1000) :
    Calls Try.prog 19 #[v] w (Sorted_p n f w) := by
  have HC := Lib.hid (fclone_any n f v B w h hB (by omega))
  clear h
  go_enter Try.func19, Try.ntmps19
  go_wp2_with (fail)
  refine HC.out.mono ?_
  rintro e w1 ⟨v1, rfl, hr, hb⟩
  have hsz := hb.size
  have HB := Lib.hid hb
  by_cases h0 : n = 0
  · subst h0
    obtain ⟨a, cap, rfl, hcap⟩ := hr.form
    have hs1 : Sl w1 w1.heap.size 1 (.slice a 0 cap) 0 (fcells 0 f) := hr.sl
    have HS := Lib.hid hs1
    clear hr hb HC hs1
    go_wp2_with (fail)
    refine (sortStable_zero a cap _ w1).mono ?_
    rintro e w' ⟨rfl, rfl⟩
    go_wp2_with (fail)
    go_ret
    exact ⟨_, f, rfl, HS.out, fun i j h1 h2 h3 => by omega, .refl, HB.out⟩
  · obtain ⟨g, cap, rfl, hcap, hg, ha⟩ := hr.arr (by omega)
    have HW := Lib.hid (sortStable_any g n cap 15 #[] (fun x y => cmpF x.1 y.1) leF f w1 ha (by omega) ordF cf_le (cmp_ok _ _) cmp_enter)
    clear hr hb HC ha
    go_wp2_with (fail)
    refine HW.out.mono ?_
    rintro e w2 ⟨rfl, ⟨g', hs, ht, ha⟩, hgr⟩
    have HA := Lib.hid ha
    have HS := Lib.hid hs
    have HT := Lib.hid ht
    have HG := Lib.hid (HB.out.trans (Gr.below hgr hg (by omega)))
    clear ha hs ht hgr
    go_wp2_with (fail)
    go_ret
    exact ⟨_, g', rfl, HA.out.sl hcap, HT.out, HS.out, HG.out⟩
end Go.Proofs.Ytpjjfkogcfdnkaa
