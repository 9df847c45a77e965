/- The walk of LinearDone. -/
import Derived.Test.YtmcbgjkogggneaaDoorLsM
import Derived.Test.YtmcbgjkogggneaaDoorLkL
namespace Go.Proofs.YtmcbgjkogggneaaDoor
set_option maxRecDepth 100000
set_option linter.unusedVariables false
set_option linter.unusedSimpArgs false
open Go.RowKit Go.Shelf Go.Maps Go.ChangeShapes Go.WideShapes Go.Deep
theorem omap_eq (o : List Nat) : (o.map fun i => Value.int .i64 (i : Nat)) = icellsI o.length (toI (at0 o)) := by
  unfold icellsI toI at0
  refine List.ext_getElem? fun k => ?_
  by_cases h : k < o.length
  · rw [List.getElem?_map, List.getElem?_map, List.getElem?_range h]
    simp [List.getElem?_eq_getElem h]
  · rw [List.getElem?_eq_none (by simp; omega), List.getElem?_eq_none (by simp; omega)]
theorem icellsI_id (j : Nat) : icellsI (j + 1) (toI id) = icellsI j (toI id) ++ [.int .i64 (j : Nat)] := by
  unfold icellsI
  rw [List.range_succ, List.map_append]
  rfl
def ucells (m : Nat) (g : Nat → Nat) : List Value := (List.range m).map fun k => .int .u8 (g k : Nat)
theorem ucells_get {m k : Nat} (g : Nat → Nat) (h : k < m) : (ucells m g)[k]? = some (.int .u8 (g k : Nat)) := by
  unfold ucells
  rw [List.getElem?_map, List.getElem?_range h]
  rfl
theorem ucells_len (m : Nat) (g : Nat → Nat) : (ucells m g).length = m := by unfold ucells; simp
theorem u8s_build : ∀ (n : Nat) (cs : List Value), cs.length = n → (∀ i, i < n → ∃ x : Nat, (cs.drop i).take 1 = [.int .u8 (x : Nat)] ∧ x < 256) → ∃ g, cs = ucells n g ∧ ∀ k, k < n → g k < 256
  | 0, cs, h, _ => ⟨fun _ => 0, by rw [List.eq_nil_of_length_eq_zero h]; rfl, fun k hk => by omega⟩
  | n + 1, cs, h, hall => by
    refine ⟨fun k => if hk : k < n + 1 then (hall k hk).choose else 0, ?_, fun k hk => ?_⟩
    · refine List.ext_getElem? fun q => ?_
      by_cases hq : q < n + 1
      · have h1 := (hall q hq).choose_spec.1
        have h2 := congrArg (fun l : List Value => l[0]?) h1
        rw [List.getElem?_take, if_pos (by omega), List.getElem?_drop, Nat.add_zero] at h2
        rw [h2, ucells_get _ hq]
        simp only [hq, dif_pos]
        rfl
      · rw [List.getElem?_eq_none (by omega), List.getElem?_eq_none (by rw [ucells_len]; omega)]
    · simp only [hk, dif_pos]
      exact (hall k hk).choose_spec.2
theorem u8s_open {H : Type} {enc : TypeId × Value → H} {w : World} {base : Nat} {spare : Nat → Bool} {held : Bool} {fuel : Nat} {v : Value} {y : DataW H × List MemPlace} (h : DataW.trod enc Tryd.prog w base spare held fuel 45 [v] = some y) : ∃ m g, Sl w w.heap.size 1 v m (ucells m g) ∧ m ≤ maxLen ∧ ∀ k, k < m → g k < 256 := by
  obtain ⟨n, cs, h1, h2, h3⟩ := sl_open Tryd.underlying45 (show Tryd.prog.cellsOf 5 = 1 by kernel_rfl) (by omega) h
  have hl : cs.length = n := by have := h1.1; omega
  obtain ⟨g, rfl, hg⟩ := u8s_build n cs hl (fun i hi => by
    obtain ⟨q, z, hz⟩ := h3 i hi
    rw [Nat.mul_one] at hz
    obtain ⟨x, hx, _, hw⟩ := DataW.trod_int Tryd.underlying5 hz
    obtain ⟨l0, u0⟩ := u8_bd hw
    exact ⟨x.toNat, by rw [hx, Int.toNat_of_nonneg l0], by omega⟩)
  exact ⟨n, g, h1, h2, hg⟩
theorem and1 (x : Int) : bits .and .i64 x 1 = 0 ∨ bits .and .i64 x 1 = 1 := by
  unfold bits
  have h : (BitVec.ofInt 64 x &&& BitVec.ofInt 64 1).toNat < 2 := by
    rw [BitVec.toNat_and]
    have : (BitVec.ofInt 64 1).toNat = 1 := by decide
    rw [this, Nat.and_one_is_mod]
    omega
  show IntKind.i64.wrap (((BitVec.ofInt 64 x &&& BitVec.ofInt 64 1).toNat : Nat) : Int) = 0 ∨ IntKind.i64.wrap (((BitVec.ofInt 64 x &&& BitVec.ofInt 64 1).toNat : Nat) : Int) = 1
  rw [IntWalk.i64_in _ (by omega)]
  omega
theorem heap_setC {W : World} {b j : Nat} {v : Value} {cs : Array Value} {t : TypeId} {fr : Nat × Nat} (h : W.heap[b]? = some (.cells cs t fr)) : (W.setCell ⟨b, j, none⟩ v).heap[b]? = some (.cells (cs.setIfInBounds j v) t fr) := by
  have hlt : b < W.heap.size := by
    rcases Nat.lt_or_ge b W.heap.size with h' | h'
    · exact h'
    · rw [Array.getElem?_eq_none h'] at h; cases h
  simp only [World.setCell, Array.getElem?_modify, h]
  simp
theorem CBlk.set {w : World} {b : Nat} {c c' : CallV} (h : CBlk w b c) (k : Nat) (x : Value) (hk : k < 6) (hc : c'.cells = c.cells.set k x) : CBlk (w.setCell ⟨b, k, none⟩ x) b c' :=
  ⟨by rw [hc]; exact h.own.set k x hk, by obtain ⟨cur, hcur⟩ := h.blk; exact ⟨_, heap_setC hcur⟩⟩
theorem CBlk.lt {w : World} {b : Nat} {c : CallV} (h : CBlk w b c) : b < w.heap.size := by
  obtain ⟨cur, hcur⟩ := h.blk
  rcases Nat.lt_or_ge b w.heap.size with h' | h'
  · exact h'
  · rw [Array.getElem?_eq_none h'] at hcur; cases hcur
theorem Row.setC {base e size n : Nat} {w : World} {v : Value} {xs : List Value} {b : Nat} {c : CallV} (h : Row base e size w v n xs) (hc : CBlk w b c) (he : e ≠ 32) (k : Nat) (x : Value) : Row base e size (w.setCell ⟨b, k, none⟩ x) v n xs := by
  refine h.block fun g _ _ hg => Below.heap_setCell w _ _ _ fun e2 => ?_
  obtain ⟨cur, hcur⟩ := hg
  obtain ⟨cur2, hcur2⟩ := hc.blk
  subst e2
  rw [hcur2] at hcur
  injection hcur with hcur
  injection hcur with _ hcur
  exact he hcur.symm
def zC : CallV := ⟨0, .empty, false, none, 0, 0, 0, 0⟩
/-- A pointer to a new call. -/
def NewP (B : Nat) (z : Value) (W : World) : Prop := ∃ b, z = .pointer (some ⟨b, 0, none⟩) ∧ B ≤ b ∧ CBlk W b zC
theorem hstNewP {B : Nat} : ∀ v W W', (fun v W => NewP B v W) v W → Below W.heap.size W W' → (fun v W => NewP B v W) v W' := by
  rintro v W W' ⟨b, h1, h2, h3⟩ hR
  exact ⟨b, h1, h2, h3.below hR h3.lt⟩
theorem NewP.new {B : Nat} {W : World} (hB : B ≤ W.heap.size) : NewP B (.pointer (some ⟨W.heap.size, 0, none⟩)) (W.alloc (.cells zC.cells.toArray 32)) := ⟨_, rfl, hB, CBlk.new W zC⟩
/-- The call that a round makes, and the names behind it. -/
structure NewC (base cb j : Nat) (l : List ByteArray) (nv' : Value) (l' ns : List ByteArray) (c : CallV) (w : World) : Prop where
  blk : CBlk w cb c
  nrow : Row base 9 1 w nv' l'.length (scells l')
  lsz : ∀ s ∈ l', s.size ≤ maxLen
  llen : l'.length ≤ j + 1
  nsp : ns.length = c.nn ∧ Row base 9 1 w (.slice c.na c.nn c.nc) c.nn (scells ns) ∧ (∀ s ∈ ns, s.size ≤ maxLen) ∧ c.name.size ≤ maxLen ∧ ns.length ≤ j + 1
  tl : ∀ beg fin, 0 ≤ fin → tells l { c with beg := beg, fin := fin } ns = (l', true)
theorem NewC.below {base cb j : Nat} {l l' ns : List ByteArray} {nv' : Value} {c : CallV} {w w' : World} (h : NewC base cb j l nv' l' ns c w) (hb : Below w.heap.size w w') : NewC base cb j l nv' l' ns c w' :=
  ⟨h.blk.below hb h.blk.lt, h.nrow.below hb, h.lsz, h.llen, ⟨h.nsp.1, h.nsp.2.1.below hb, h.nsp.2.2⟩, h.tl⟩
theorem NewC.setB {base cb j : Nat} {l l' ns : List ByteArray} {nv' : Value} {c : CallV} {w : World} (h : NewC base cb j l nv' l' ns c w) (x : Int) : NewC base cb j l nv' l' ns { c with beg := x } (w.setCell ⟨cb, 4, none⟩ (.int .i64 x)) :=
  ⟨h.blk.set 4 _ (by omega) rfl, h.nrow.setC h.blk (by decide) _ _, h.lsz, h.llen, ⟨h.nsp.1, h.nsp.2.1.setC h.blk (by decide) _ _, h.nsp.2.2⟩, h.tl⟩
theorem NewC.setF {base cb j : Nat} {l l' ns : List ByteArray} {nv' : Value} {c : CallV} {w : World} (h : NewC base cb j l nv' l' ns c w) (x : Int) : NewC base cb j l nv' l' ns { c with fin := x } (w.setCell ⟨cb, 5, none⟩ (.int .i64 x)) :=
  ⟨h.blk.set 5 _ (by omega) rfl, h.nrow.setC h.blk (by decide) _ _, h.lsz, h.llen, ⟨h.nsp.1, h.nsp.2.1.setC h.blk (by decide) _ _, h.nsp.2.2⟩, h.tl⟩
set_option maxHeartbeats 16000000 in
theorem done_walk (n m : Nat) (cv0 : Nat → CallV) (g : Nat → Nat) (v u : Value) (w : World) (h : Sl w w.heap.size 6 v n (ccells n cv0)) (hn : n ≤ maxLen) (hok : ∀ i, i < n → CallOK w (cv0 i)) (hu : Sl w w.heap.size 1 u m (ucells m g)) (hm : m ≤ maxLen) (hg : ∀ k, k < m → g k < 256) :
    Calls Tryd.prog 5 #[v, u] w fun e w' => e = .returned (.bool true) ∧ Below w.heap.size w w' := by
  obtain ⟨a, cap, rfl, hcap⟩ := h.form
  obtain ⟨a2, cap2, rfl, hcap2⟩ := hu.form
  have HS := Lib.hid (fun (W : World) (hW : Below w.heap.size w W) => h.below hW)
  have HU := Lib.hid (fun (W : World) (hW : Below w.heap.size w W) => hu.below hW)
  have HG := Lib.hid hg
  have HNZ : Hid (∀ i, i < n → (cv0 i).name.size ≤ maxLen) := Lib.hid (fun i hi => (hok i hi).1)
  unfold maxLen at hm
  clear h hu hok hg
  go_enter Tryd.func5, Tryd.ntmps5
  go_wp2_with (fail)
  refine (awake_any w).mono ?_
  rintro e w1 ⟨rfl, hb1⟩
  have HB1 : Hid (Below w.heap.size w w1) := Lib.hid hb1
  clear hb1
  by_cases h8 : 8 < n
  · have d1 : decide (8 < n) = true := decide_eq_true h8
    have d2 : decide ((8 : Int) < (n : Int)) = true := decide_eq_true (by omega)
    clear h8 hn
    go_wp2_with (fail)
    go_ret
    exact ⟨by rfl, HB1.out⟩
  have d1 : decide (8 < n) = false := decide_eq_false h8
  have d2 : decide ((8 : Int) < (n : Int)) = false := decide_eq_false (by omega)
  have hn8 : n ≤ 8 := by omega
  clear h8 hn
  go_wp2_with (fail)
  go_loopw [5, 6, 7, 8] (fun nv cl ov i wr => ∃ (j : Nat) (l : List ByteArray) (cv : Nat → CallV) (nm : Nat → List ByteArray), i = .int .i64 j ∧ j ≤ n ∧ Hid (DnI w.heap.size wr j j nv cl ov l cv nm) ∧ Hid (Below w.heap.size w wr)) (fun _ _ _ i _ => n - (intOf i).toNat)
  case atStart => exact ⟨0, [], cv0, fun _ => [], rfl, Nat.zero_le _, Lib.hid (DnI.nil _ _ _ _), HB1⟩
  case round =>
    obtain ⟨j, l, cv, nm, rfl, hj, HD, HB⟩ := hrel
    obtain ⟨wo, rfl⟩ : ∃ z : World, z = wr := ⟨_, rfl⟩
    have hzo := HB.out.size
    obtain ⟨na, nc, hnv, _⟩ := HD.out.nrow.form
    obtain ⟨ca, cc, hcl, _⟩ := HD.out.crow.form
    obtain ⟨oa, oc, hov, _⟩ := HD.out.orow.form
    subst hnv hcl hov
    obtain ⟨ll, hll⟩ : ∃ z, l.length = z := ⟨_, rfl⟩
    have HLL := Lib.hid hll
    have hlj : ll ≤ j := by have := HD.out.llen; omega
    rw [hll] at HD ⊢
    clear hll
    by_cases hlt : j < n
    rotate_left
    · have d3 : decide (j < n) = false := decide_eq_false hlt
      have d4 : decide ((j : Int) < (n : Int)) = false := decide_eq_false (by omega)
      obtain rfl : j = n := by omega
      have HSE := Lib.hid (search_any j cv nm (.slice ca j cc) wo.heap.size wo (HD.out.calls hn8) (fun k hk => (HD.out.nms k hk).2.2.1) (Nat.le_refl _) hn8)
      go_wp2_with (fail)
      refine HSE.out.mono ?_
      rintro e w2 ⟨hb2, hres⟩
      rcases hres with ⟨hno, _⟩ | ⟨p, v', hp, rfl, hsl⟩
      · exact absurd hno HD.out.found
      have HB2 := Lib.hid (HB.out.trans (hb2.mono hzo))
      have HD2 := Lib.hid (HD.out.below hb2)
      obtain ⟨pl, hpl⟩ : ∃ z, p.length = z := ⟨_, rfl⟩
      have HPL := Lib.hid hpl
      obtain ⟨hgd, hmu⟩ := srch_sound j [] p Gd.nil hp
      have HGD := Lib.hid hgd
      have HMU := Lib.hid hmu
      have hpl8 : pl ≤ 8 := by have := hgd.facts.2.2.2; omega
      have HSL : Hid (Sl w2 w2.heap.size 1 v' p.length (icellsI p.length (toI (at0 p)))) := Lib.hid (by rw [← omap_eq]; exact hsl)
      clear hp hpl hgd hmu hsl hb2 HSE
      rw [HPL.out] at HSL
      obtain ⟨a3, c3, rfl, _⟩ := HSL.out.form
      have HF1 := Lib.hid (fits_any j j cv nm (toI id) (.slice ca j cc) (.slice oa j oc) w2.heap.size w2 (HD2.out.calls hn8) HD2.out.orow.sl (Nat.le_refl _) (by omega) (by omega))
      have HY1 : Hid (Whole j j cv (toI id) ∧ Tm cv (natO (toI id)) j ∧ (st cv nm (natO (toI id)) j).2 = true) := Lib.hid (by
        have e : natO (toI id) = id := funext fun i => by unfold natO toI; exact Int.toNat_natCast _
        obtain ⟨h1, h2, h3⟩ := HD2.out.whole
        rw [e]
        exact ⟨h1, h2, h3 j (Nat.le_refl _)⟩)
      go_wp2_with (fail)
      refine HF1.out.mono ?_
      rintro e w3 ⟨b3, rfl, hb3, hw3⟩
      obtain rfl : b3 = true := hb3.2 HY1.out
      have HB3 := Lib.hid (HB2.out.trans (hw3.mono HB2.out.size))
      have HF2 := Lib.hid (fits_any j pl cv nm (toI (at0 p)) (.slice ca j cc) (.slice a3 pl c3) w3.heap.size w3 ((HD2.out.below hw3).calls hn8) ((HSL.out.below hw3).mono hw3.size) (Nat.le_refl _) (by omega) (by omega))
      have HY2 : Hid (Whole j pl cv (toI (at0 p)) ∧ Tm cv (natO (toI (at0 p))) pl ∧ (st cv nm (natO (toI (at0 p))) pl).2 = true) := Lib.hid (by
        have := HGD.out.fits.2 HMU.out
        rwa [HPL.out] at this)
      clear hb3 hw3 HF1
      go_wp2_with (fail)
      refine HF2.out.mono ?_
      rintro e w4 ⟨b4, rfl, hb4, hw4⟩
      obtain rfl : b4 = true := hb4.2 HY2.out
      have HB4 := Lib.hid (HB3.out.trans (hw4.mono HB3.out.size))
      clear hb4 hw4
      go_wp2_with (fail)
      go_ret
      exact ⟨by rfl, HB4.out⟩
    have d3 : decide (j < n) = true := decide_eq_true hlt
    have d4 : decide ((j : Int) < (n : Int)) = true := decide_eq_true (by omega)
    have q1 : IntKind.i64.wrap ((j : Int) + 1) = (j : Int) + 1 := IntWalk.i64_in _ (by omega)
    have hbi : (j : Int) < (n : Int) := by omega
    obtain ⟨b, off, rfl, hk0⟩ := sl_cells (HS.out wo HB.out) (by omega)
    clear hk0
    have hnz := HNZ.out j hlt
    have hcc := fun (W : World) (hW : Below wo.heap.size wo W) => call_cells (HS.out W (HB.out.trans (hW.mono hzo))) hlt
    obtain ⟨K, hK⟩ : ∃ z, (cv0 j).kind = z := ⟨_, rfl⟩
    obtain ⟨name, hname⟩ : ∃ z, (cv0 j).name = z := ⟨_, rfl⟩
    rw [hname] at hnz
    have HKC : Hid (∀ W, Below wo.heap.size wo W → W.cell? ⟨b, off + j * 6, none⟩ = some (.int .i64 K) ∧ W.cell? ⟨b, off + j * 6 + 1, none⟩ = some (.string name)) := Lib.hid (fun W hW => by
      have := hcc W hW
      rw [hK, hname] at this
      exact ⟨this.1, this.2.1⟩)
    have HNM := Lib.hid hnz
    clear hcc hK hname hnz
    obtain ⟨a1, ha1⟩ : ∃ z, bits .and .i64 K 1 = z := ⟨_, rfl⟩
    have ha01 := and1 K
    rw [ha1] at ha01
    have q2 : IntKind.i64.wrap (1 + a1) = 1 + a1 := IntWalk.i64_in _ (by omega)
    go_upto_region 11 with (fail)
    refine Mono.region_tail 14 (by kernel_rfl) (by kernel_rfl) (by kernel_rfl) (by kernel_rfl) ?_
    simp only [List.take_succ_cons, List.take_zero]
    refine Mono.hgl_val (v := ?va0) rfl Mono.rr (fun ρ a W hR hd hf => ?ha0) ?_
    case ha0 =>
      have e0 := Mono.init_get hf (t := 0) (by kernel_rfl)
      clear hd hf
      (go_simp; try with_reducible rfl)
    refine Mono.hgl_val (v := ?va1) rfl Mono.rr (fun ρ a W hR hd hf => ?ha1) ?_
    case ha1 =>
      have e8 := Mono.init_get hf (t := 8) (by kernel_rfl)
      clear hd hf
      (go_simp; try with_reducible rfl)
    refine Mono.hgl_val (v := ?va2) rfl Mono.rr (fun ρ a W hR hd hf => ?ha2) ?_
    case ha2 =>
      have e27 := Mono.dep_val hd hf (t := 27) (k := 0) (by kernel_rfl) rfl
      have e28 := Mono.dep_val hd hf (t := 28) (k := 1) (by kernel_rfl) rfl
      clear hd hf
      (go_simp; try with_reducible rfl)
    refine Mono.hgl_val (v := ?va3) rfl Mono.rr (fun ρ a W hR hd hf => ?ha3) ?_
    case ha3 =>
      have e29 := Mono.dep_val hd hf (t := 29) (k := 2) (by kernel_rfl) rfl
      clear hd hf
      (go_simp; try with_reducible rfl)
    refine Mono.hgl_val (v := ?va4) rfl Mono.rr (fun ρ a W hR hd hf => ?ha4) ?_
    case ha4 =>
      have e30 := Mono.dep_val hd hf (t := 30) (k := 3) (by kernel_rfl) rfl
      obtain ⟨g0, g1⟩ := HKC.out W hR
      clear hd hf
      (go_simp; try with_reducible rfl)
    refine Mono.hgl_val (v := ?va5) rfl Mono.rr (fun ρ a W hR hd hf => ?ha5) ?_
    case ha5 =>
      have e31 := Mono.dep_val hd hf (t := 31) (k := 4) (by kernel_rfl) rfl
      clear hd hf
      (go_simp; try with_reducible rfl)
    refine Mono.hgl_val (v := ?va6) rfl Mono.rr (fun ρ a W hR hd hf => ?ha6) ?_
    case ha6 =>
      have e32 := Mono.dep_val hd hf (t := 32) (k := 5) (by kernel_rfl) rfl
      clear hd hf
      (go_simp; try with_reducible rfl)
    refine Mono.hgl_val (v := ?va7) rfl Mono.rr (fun ρ a W hR hd hf => ?ha7) ?_
    case ha7 =>
      have e0 := Mono.init_get hf (t := 0) (by kernel_rfl)
      clear hd hf
      (go_simp; try with_reducible rfl)
    refine Mono.hgl_val (v := ?va8) rfl Mono.rr (fun ρ a W hR hd hf => ?ha8) ?_
    case ha8 =>
      have e8 := Mono.init_get hf (t := 8) (by kernel_rfl)
      clear hd hf
      (go_simp; try with_reducible rfl)
    refine Mono.hgl_val (v := ?va9) rfl Mono.rr (fun ρ a W hR hd hf => ?ha9) ?_
    case ha9 =>
      have e34 := Mono.dep_val hd hf (t := 34) (k := 7) (by kernel_rfl) rfl
      have e35 := Mono.dep_val hd hf (t := 35) (k := 8) (by kernel_rfl) rfl
      clear hd hf
      (go_simp; try with_reducible rfl)
    refine Mono.hgl_val (v := ?va10) rfl Mono.rr (fun ρ a W hR hd hf => ?ha10) ?_
    case ha10 =>
      have e36 := Mono.dep_val hd hf (t := 36) (k := 9) (by kernel_rfl) rfl
      clear hd hf
      (go_simp; try with_reducible rfl)
    refine Mono.hgl_val (v := ?va11) rfl Mono.rr (fun ρ a W hR hd hf => ?ha11) ?_
    case ha11 =>
      have e37 := Mono.dep_val hd hf (t := 37) (k := 10) (by kernel_rfl) rfl
      obtain ⟨g0, g1⟩ := HKC.out W hR
      clear hd hf
      (go_simp; try with_reducible rfl)
    refine Mono.hgl_val (v := ?va12) rfl Mono.rr (fun ρ a W hR hd hf => ?ha12) ?_
    case ha12 =>
      have e33 := Mono.dep_val hd hf (t := 33) (k := 6) (by kernel_rfl) rfl
      have e38 := Mono.dep_val hd hf (t := 38) (k := 11) (by kernel_rfl) rfl
      clear hd hf
      (go_simp; try with_reducible rfl)
    refine Mono.hgl_pred (fun z W => NewP wo.heap.size z W) rfl hstNewP (fun ρ a W hR hd hf => ?ha13) ?_
    case ha13 =>
      have hz := hR.size
      clear hd hf
      exact ⟨_, _, by go_simp; rfl, (Below.refl _ _).alloc (Nat.le_refl _) _, NewP.new hz⟩
    refine Mono.hgl_done rfl (by decide) (fun ρ W hR ht => ?_)
    simp only [List.take_succ_cons, List.take_zero, List.drop_succ_cons, List.drop_zero]
    obtain ⟨da13, da12, da11, da10, da9, da8, da7, da6, da5, da4, da3, da2, da1, da0, _⟩ := ht
    replace da13 : (fun z W => NewP wo.heap.size z W) (ρ 13) W := da13
    simp only [List.length_cons, List.length_nil, Nat.reduceAdd] at da0 da1 da2 da3 da4 da5 da6 da7 da8 da9 da10 da11 da12
    simp only [Mono.putAll, Nat.reduceAdd, da0, da1, da2, da3, da4, da5, da6, da7, da8, da9, da10, da11, da12, Act.put, List.setIfInBounds_toArray, List.set_cons_zero, List.set_cons_succ]
    clear da0 da1 da2 da3 da4 da5 da6 da7 da8 da9 da10 da11 da12
    generalize ρ 13 = ra13 at *
    obtain ⟨cb, rfl, hcb, hblk⟩ := da13
    have HBW := Lib.hid hR
    have y0 := hblk.own.1 0 _ rfl
    have y1 := hblk.own.1 1 _ rfl
    have y2 := hblk.own.1 2 _ rfl
    have y3 := hblk.own.1 3 _ rfl
    have y4 := hblk.own.1 4 _ rfl
    have y5 := hblk.own.1 5 _ rfl
    have yf := hblk.own.2
    have HBLK := Lib.hid hblk
    clear hR hblk
    obtain ⟨wX, hwX⟩ : ∃ z : World, z = (((((W.setCell ⟨cb, 0, none⟩ (.int .i64 (1 + a1))).setCell ⟨cb, 1, none⟩ (.string name)).setCell ⟨cb, 2, none⟩ (.bool false)).setCell ⟨cb, 3, none⟩ (.slice none 0 0)).setCell ⟨cb, 4, none⟩ (.int .i64 0)).setCell ⟨cb, 5, none⟩ (.int .i64 0) := ⟨_, rfl⟩
    have HCX : Hid (CBlk wX cb ⟨1 + a1, name, false, none, 0, 0, 0, 0⟩) := Lib.hid (by
      rw [hwX]
      exact (((((HBLK.out.set (c' := ⟨1 + a1, .empty, false, none, 0, 0, 0, 0⟩) 0 _ (by omega) rfl).set (c' := ⟨1 + a1, name, false, none, 0, 0, 0, 0⟩) 1 _ (by omega) rfl).set (c' := ⟨1 + a1, name, false, none, 0, 0, 0, 0⟩) 2 _ (by omega) rfl).set (c' := ⟨1 + a1, name, false, none, 0, 0, 0, 0⟩) 3 _ (by omega) rfl).set (c' := ⟨1 + a1, name, false, none, 0, 0, 0, 0⟩) 4 _ (by omega) rfl).set (c' := ⟨1 + a1, name, false, none, 0, 0, 0, 0⟩) 5 _ (by omega) rfl)
    have HBX : Hid (Below wo.heap.size wo wX) := Lib.hid (by
      rw [hwX]
      exact (((((HBW.out.setCell (p := ⟨cb, 0, none⟩) hcb _).setCell (p := ⟨cb, 1, none⟩) hcb _).setCell (p := ⟨cb, 2, none⟩) hcb _).setCell (p := ⟨cb, 3, none⟩) hcb _).setCell (p := ⟨cb, 4, none⟩) hcb _).setCell (p := ⟨cb, 5, none⟩) hcb _)
    have HWX := Lib.hid hwX
    clear hwX
    go_upto_region 12 with (fail)
    rw [← HWX.out]
    clear y0 y1 y2 y3 y4 y5 yf HBLK HBW HWX
    go_wp2_with (fail)
    go_loopw [10, 11] (fun iz k wr => ∃ (q : Nat) (bb : Bool), iz = .bool bb ∧ k = .int .i64 q ∧ q ≤ ll ∧ Hid (hasL (l.take q) name = bb) ∧ Hid (Below wX.heap.size wX wr)) (fun _ k _ => ll - (intOf k).toNat)
    case atStart => exact ⟨0, false, rfl, rfl, Nat.zero_le _, Lib.hid rfl, Lib.hid (Below.refl _ _)⟩
    case round =>
      obtain ⟨q, bb, rfl, rfl, hq, HT, HBL⟩ := hrel
      obtain ⟨wl, rfl⟩ : ∃ z : World, z = wr := ⟨_, rfl⟩
      have HCL := Lib.hid (HCX.out.below HBL.out HCX.out.lt)
      have HBO : Hid (Below wo.heap.size wo wl) := Lib.hid (HBX.out.trans (HBL.out.mono HBX.out.size))
      by_cases hql : q < ll
      · have e1 : decide (q < ll) = true := decide_eq_true hql
        have e2 : decide ((q : Int) < (ll : Int)) = true := decide_eq_true (by omega)
        have q3 : IntKind.i64.wrap ((q : Int) + 1) = (q : Int) + 1 := IntWalk.i64_in _ (by omega)
        have hqi : (q : Int) < (ll : Int) := by omega
        have hql2 : q < l.length := by have := HLL.out; omega
        obtain ⟨x, hx⟩ : ∃ x, l[q]? = some x := ⟨_, List.getElem?_eq_getElem hql2⟩
        have hsl := (HD.out.below HBO.out).nrow.sl
        rw [HLL.out] at hsl
        obtain ⟨b1, o1, rfl, hk1⟩ := sl_cells hsl (by omega)
        have k1 := hk1 q _ (scells_get hx)
        have y1 := HCL.out.own.1 1 _ rfl
        have HX := Lib.hid (hasL_take (s := name) hx)
        rw [HT.out] at HX
        clear hk1 hsl hx hql2 hql
        cases bb with
        | true =>
          have HT2 : Hid (hasL (l.take (q + 1)) name = true) := Lib.hid (by rw [HX.out]; rfl)
          go_wp2_with (fail)
          go_quiet (fail)
          have HB2 : Hid (Below wX.heap.size wX (wl.drewN nq)) := Lib.hid (below_drewN HBL.out _)
          clear k1 y1
          go_wp2_with (fail)
          go_roundw
          case rel => exact ⟨q + 1, true, rfl, rfl, by omega, HT2, HB2⟩
          case measure => simp [intOf] <;> omega
        | false =>
          by_cases hxn : x = name
          · have d5 : (x.toList == name.toList) = true := by rw [str_eq]; exact decide_eq_true hxn
            have HT2 : Hid (hasL (l.take (q + 1)) name = true) := Lib.hid (by rw [HX.out, decide_eq_true hxn]; rfl)
            clear hxn
            go_wp2_with (fail)
            go_quiet (fail)
            have HB2 : Hid (Below wX.heap.size wX (wl.drewN nq)) := Lib.hid (below_drewN HBL.out _)
            clear k1 y1
            go_wp2_with (fail)
            go_roundw
            case rel => exact ⟨q + 1, true, rfl, rfl, by omega, HT2, HB2⟩
            case measure => simp [intOf] <;> omega
          · have d5 : (x.toList == name.toList) = false := by rw [str_eq]; exact decide_eq_false hxn
            have d6 : ¬ x.toList = name.toList := by
              intro e
              rw [e] at d5
              simp at d5
            have HT2 : Hid (hasL (l.take (q + 1)) name = false) := Lib.hid (by rw [HX.out, decide_eq_false hxn]; rfl)
            clear hxn
            go_wp2_with (fail)
            go_quiet (fail)
            have HB2 : Hid (Below wX.heap.size wX (wl.drewN nq)) := Lib.hid (below_drewN HBL.out _)
            clear k1 y1
            go_wp2_with (fail)
            go_roundw
            case rel => exact ⟨q + 1, false, rfl, rfl, by omega, HT2, HB2⟩
            case measure => simp [intOf] <;> omega
      have e1 : decide (q < ll) = false := decide_eq_false hql
      have e2 : decide ((q : Int) < (ll : Int)) = false := decide_eq_false (by omega)
      have HAS : Hid (hasL l name = bb) := Lib.hid (by
        have := HT.out
        rwa [List.take_of_length_le (by have := HLL.out; omega)] at this)
      have y2 := HCL.out.own.1 2 _ rfl
      have yf := HCL.out.own.2
      obtain ⟨wM, hwM⟩ : ∃ z : World, z = wl.setCell ⟨cb, 2, none⟩ (.bool bb) := ⟨_, rfl⟩
      have HCM : Hid (CBlk wM cb ⟨1 + a1, name, bb, none, 0, 0, 0, 0⟩) := Lib.hid (by rw [hwM]; exact HCL.out.set 2 _ (by omega) rfl)
      have HBM : Hid (Below wo.heap.size wo wM) := Lib.hid (by rw [hwM]; exact HBO.out.setCell (p := ⟨cb, 2, none⟩) hcb _)
      have HWM := Lib.hid hwM
      clear hwM hql HT HBL
      go_upto_region 18 with (fail)
      rw [← HWM.out]
      clear y2 yf HWM HCL HBO HCX HBX
      obtain ⟨k0, _⟩ := HKC.out wM HBM.out
      cases hk6 : (bits .and .i64 K 6 == 6) with
      | true =>
        have y0 : wM.cell? ⟨cb, 0, none⟩ = some (.int .i64 (1 + a1)) := HCM.out.own.1 0 _ rfl
        have y1 : wM.cell? ⟨cb, 1, none⟩ = some (.string name) := HCM.out.own.1 1 _ rfl
        have y2 : wM.cell? ⟨cb, 2, none⟩ = some (.bool bb) := HCM.out.own.1 2 _ rfl
        have y3 : wM.cell? ⟨cb, 3, none⟩ = some (.slice none 0 0) := HCM.out.own.1 3 _ rfl
        have y4 : wM.cell? ⟨cb, 4, none⟩ = some (.int .i64 0) := HCM.out.own.1 4 _ rfl
        have y5 : wM.cell? ⟨cb, 5, none⟩ = some (.int .i64 0) := HCM.out.own.1 5 _ rfl
        have yf := HCM.out.own.2
        obtain ⟨wN, hwN⟩ : ∃ z : World, z = (((((wM.setCell ⟨cb, 0, none⟩ (.int .i64 3)).setCell ⟨cb, 1, none⟩ (.string ⟨#[]⟩)).setCell ⟨cb, 2, none⟩ (.bool false)).setCell ⟨cb, 3, none⟩ (.slice na ll nc)).setCell ⟨cb, 4, none⟩ (.int .i64 0)).setCell ⟨cb, 5, none⟩ (.int .i64 0) := ⟨_, rfl⟩
        have HCN : Hid (CBlk wN cb ⟨3, .empty, false, na, ll, nc, 0, 0⟩) := Lib.hid (by
          rw [hwN]
          exact (((((HCM.out.set (c' := ⟨3, name, bb, none, 0, 0, 0, 0⟩) 0 _ (by omega) rfl).set (c' := ⟨3, .empty, bb, none, 0, 0, 0, 0⟩) 1 _ (by omega) rfl).set (c' := ⟨3, .empty, false, none, 0, 0, 0, 0⟩) 2 _ (by omega) rfl).set (c' := ⟨3, .empty, false, na, ll, nc, 0, 0⟩) 3 _ (by omega) rfl).set (c' := ⟨3, .empty, false, na, ll, nc, 0, 0⟩) 4 _ (by omega) rfl).set (c' := ⟨3, .empty, false, na, ll, nc, 0, 0⟩) 5 _ (by omega) rfl)
        have HBN : Hid (Below wo.heap.size wo wN) := Lib.hid (by
          rw [hwN]
          exact (((((HBM.out.setCell (p := ⟨cb, 0, none⟩) hcb _).setCell (p := ⟨cb, 1, none⟩) hcb _).setCell (p := ⟨cb, 2, none⟩) hcb _).setCell (p := ⟨cb, 3, none⟩) hcb _).setCell (p := ⟨cb, 4, none⟩) hcb _).setCell (p := ⟨cb, 5, none⟩) hcb _)
        have HWN := Lib.hid hwN
        clear hwN
        have HN : Hid (NewC w.heap.size cb j l (.slice na ll nc) (l) l ⟨3, .empty, false, na, ll, nc, 0, 0⟩ wN) := Lib.hid ⟨HCN.out, (HD.out.below HBN.out).nrow, HD.out.lsz, by have := HD.out.llen; omega, ⟨HLL.out, by have := (HD.out.below HBN.out).nrow; rw [HLL.out] at this; exact this, HD.out.lsz, Nat.zero_le _, by have := HD.out.llen; omega⟩, fun beg fin _ => tells_list⟩
        go_upto_region 24 with (fail)
        rw [← HWN.out]
        clear y0 y1 y2 y3 y4 y5 yf
        clear HWN HCN HCM k0
        obtain ⟨sb, hsb⟩ : ∃ z, decide (j < m) = z := ⟨_, rfl⟩
        have hsbi : decide ((j : Int) < (m : Int)) = sb := by rw [← hsb]; exact decide_eq_decide.2 (by omega)
        have HSB := Lib.hid hsb
        go_upto_if 85 with (fail)
        clear hsb hsbi
        go_cut [12, 13] (fun x y wx => ∃ z : World, z = wx ∧ ∃ ea la : Nat, x = .int .i64 ea ∧ y = .int .i64 la ∧ ea < 16 ∧ la < 16 ∧ Hid (Below wN.heap.size wN wx))
        case first =>
          cases sb with
          | true =>
            have hs : j < m := of_decide_eq_true HSB.out
            have hsi : (j : Int) < (m : Int) := by omega
            obtain ⟨b3, o3, hb3, hk3⟩ := sl_cells (HU.out wN (HB.out.trans (HBN.out.mono hzo))) (by omega)
            subst hb3
            have k3 := hk3 j _ (ucells_get g hs)
            have hx := HG.out j hs
            generalize g j = x at *
            clear hk3 hs
            go_wp2_with (fail)
            go_quiet (fail)
            go_wp2_with (fail)
            go_meet
            exact ⟨wN.drewN nq, rfl, x % 16, x / 16, congrArg (Value.int .i64) (by omega), congrArg (Value.int .i64) (by omega), by omega, by omega, Lib.hid (below_drewN (Below.refl _ _) _)⟩
          | false =>
            go_wp2_with (fail)
            go_meet
            exact ⟨wN, rfl, 0, 0, rfl, rfl, by omega, by omega, Lib.hid (Below.refl _ _)⟩
        case rest =>
          obtain ⟨wc, rfl, ea, la, rfl, rfl, hea, hla, HBC⟩ := hcut
          have HNC := Lib.hid (HN.out.below HBC.out)
          have HBCO : Hid (Below wo.heap.size wo wc) := Lib.hid (HBN.out.trans (HBC.out.mono HBN.out.size))
          have z4 : wc.cell? ⟨cb, 4, none⟩ = some (.int .i64 0) := HNC.out.blk.own.1 4 _ rfl
          have z5 : wc.cell? ⟨cb, 5, none⟩ = some (.int .i64 0) := HNC.out.blk.own.1 5 _ rfl
          have zf := HNC.out.blk.own.2
          have r1 : IntKind.i64.wrap (10 * (j : Int)) = 10 * (j : Int) := IntWalk.i64_in _ (by omega)
          have r2 : IntKind.i64.wrap (3 * (ea : Int)) = 3 * (ea : Int) := IntWalk.i64_in _ (by omega)
          have r3 : IntKind.i64.wrap (10 * (j : Int) - 3 * (ea : Int)) = 10 * (j : Int) - 3 * (ea : Int) := IntWalk.i64_in _ (by omega)
          have r4 : IntKind.i64.wrap (3 * (la : Int)) = 3 * (la : Int) := IntWalk.i64_in _ (by omega)
          have r5 : IntKind.i64.wrap (10 * (j : Int) + 3 * (la : Int)) = 10 * (j : Int) + 3 * (la : Int) := IntWalk.i64_in _ (by omega)
          obtain ⟨wP, hwP⟩ : ∃ z : World, z = (wc.setCell ⟨cb, 4, none⟩ (.int .i64 (10 * (j : Int) - 3 * (ea : Int)))).setCell ⟨cb, 5, none⟩ (.int .i64 (10 * (j : Int) + 3 * (la : Int))) := ⟨_, rfl⟩
          have HNP : Hid (NewC w.heap.size cb j l (.slice na ll nc) l l ⟨3, .empty, false, na, ll, nc, 10 * (j : Int) - 3 * (ea : Int), 10 * (j : Int) + 3 * (la : Int)⟩ wP) := Lib.hid (by rw [hwP]; exact (HNC.out.setB _).setF _)
          have HBP : Hid (Below wo.heap.size wo wP) := Lib.hid (by rw [hwP]; exact (HBCO.out.setCell (p := ⟨cb, 4, none⟩) hcb _).setCell (p := ⟨cb, 5, none⟩) hcb _)
          have HWP := Lib.hid hwP
          clear hwP
          go_upto_region 28 with (fail)
          rw [← HWP.out]
          clear z4 z5 zf HWP r1 r2 r3 r4 r5 HN HNC HBN HBC HBCO
          obtain ⟨E, hE⟩ : ∃ z, 10 * (j : Int) + 3 * (la : Int) = z := ⟨_, rfl⟩
          obtain ⟨G, hG⟩ : ∃ z, 10 * (j : Int) - 3 * (ea : Int) = z := ⟨_, rfl⟩
          obtain ⟨F, hF⟩ : ∃ z, max E 0 = z := ⟨_, rfl⟩
          have HTM : Hid (10 * (j : Int) ≤ F ∧ G ≤ 10 * (j : Int)) := Lib.hid (by omega)
          have hnp := HNP.out
          rw [hE, hG] at hnp
          have z5 : wP.cell? ⟨cb, 5, none⟩ = some (.int .i64 E) := hnp.blk.own.1 5 _ rfl
          have zf := hnp.blk.own.2
          obtain ⟨wQ, hwQ⟩ : ∃ z : World, z = wP.setCell ⟨cb, 5, none⟩ (.int .i64 F) := ⟨_, rfl⟩
          have HNQ : Hid (NewC w.heap.size cb j l (.slice na ll nc) l l ⟨3, .empty, false, na, ll, nc, G, F⟩ wQ) := Lib.hid (by rw [hwQ]; exact hnp.setF F)
          have HBQ : Hid (Below wo.heap.size wo wQ) := Lib.hid (by rw [hwQ]; exact HBP.out.setCell (p := ⟨cb, 5, none⟩) hcb _)
          have HWQ := Lib.hid hwQ
          clear hwQ hE hG hnp HNP
          go_upto_region 29 with (fail)
          rw [← HWQ.out]
          clear z5 zf HWQ HBP hF
          obtain ⟨wY, hwY⟩ : ∃ z : World, z = wQ.alloc (.cells #[.int .i64 (3), .string .empty, .bool false, .slice (na) ll nc, .int .i64 G, .int .i64 F] 32) := ⟨_, rfl⟩
          have hby : Below wQ.heap.size wQ wY := by rw [hwY]; exact (Below.refl _ _).alloc (Nat.le_refl _) _
          have HSLY : Hid (Sl wY (wQ.heap.size + 1) 6 (.slice (some ⟨wQ.heap.size, 0, none⟩) 1 1) 1 [.int .i64 (3), .string .empty, .bool false, .slice (na) ll nc, .int .i64 G, .int .i64 F]) := Lib.hid (by rw [hwY]; exact Sl.new wQ 6 1 [.int .i64 (3), .string .empty, .bool false, .slice (na) ll nc, .int .i64 G, .int .i64 F] 32 rfl)
          have HONE : Hid (∀ u ∈ ([.int .i64 (3), .string .empty, .bool false, .slice (na) ll nc, .int .i64 G, .int .i64 F] : List Value), u.oneCell' = true) := Lib.hid (by intro u hu; simp at hu; rcases hu with rfl | rfl | rfl | rfl | rfl | rfl <;> rfl)
          have HBY : Hid (Below wo.heap.size wo wY) := Lib.hid (HBQ.out.trans (hby.mono HBQ.out.size))
          have hzy : w.heap.size ≤ wY.heap.size := Nat.le_trans hzo HBY.out.size
          have HDY := Lib.hid (HD.out.below HBY.out)
          have HNY := Lib.hid (HNQ.out.below hby)
          have HWY := Lib.hid hwY
          have z0 := HNQ.out.blk.own.1 0 _ rfl
          have z1 := HNQ.out.blk.own.1 1 _ rfl
          have z2 := HNQ.out.blk.own.1 2 _ rfl
          have z3 := HNQ.out.blk.own.1 3 _ rfl
          have z4 := HNQ.out.blk.own.1 4 _ rfl
          have z5 := HNQ.out.blk.own.1 5 _ rfl
          clear hwY hby
          go_wp2_with (at_builtin; rw [← HWY.out]; refine append_rowG (base := w.heap.size) (size := 6) (xs := ccells j cv) Tryd.underlying22 info_call rfl (by decide) rfl _ _ rfl rfl HDY.out.crow rfl HSLY.out HONE.out ?_ ?_ ?_ ?_; omega; omega; exact hzy)
          intro v7 w7 hr7 hb7 hg7
          have HB7 : Hid (Below w.heap.size w w7) := Lib.hid ((HB.out.trans (HBY.out.mono hzo)).trans hb7)
          obtain ⟨cv7, nm7, HD7⟩ : ∃ cv7 nm7, Hid (DnI w.heap.size w7 (j + 1) j (.slice na ll nc) v7 (.slice oa j oc) l cv7 nm7) := ⟨_, _, Lib.hid (HDY.out.call (c := ⟨3, .empty, false, na, ll, nc, G, F⟩) HNY.out.nrow HNY.out.lsz HNY.out.llen hr7 hg7 HNY.out.nsp HTM.out (HNY.out.tl G F (by have := HTM.out.1; omega)))⟩
          clear hr7 hb7 hg7 HDY HNY HBY HWY HSLY HONE hzy z0 z1 z2 z3 z4 z5 HNQ HBQ HTM
          obtain ⟨w8, hw8⟩ : ∃ z : World, z = w7.alloc (.cells #[.int .i64 (j : Nat)] 3) := ⟨_, rfl⟩
          have hb8 : Below w7.heap.size w7 w8 := by rw [hw8]; exact (Below.refl _ _).alloc (Nat.le_refl _) _
          have HSL8 : Hid (Sl w8 (w7.heap.size + 1) 1 (.slice (some ⟨w7.heap.size, 0, none⟩) 1 1) 1 [.int .i64 (j : Nat)]) := Lib.hid (by rw [hw8]; exact Sl.new w7 1 1 [.int .i64 (j : Nat)] 3 rfl)
          have HON8 : Hid (∀ u ∈ ([.int .i64 (j : Nat)] : List Value), u.oneCell' = true) := Lib.hid (by intro u hu; simp at hu; subst hu; rfl)
          have HB8 : Hid (Below w.heap.size w w8) := Lib.hid (HB7.out.trans (hb8.mono HB7.out.size))
          have hz8 := HB8.out.size
          have HD8 := Lib.hid (HD7.out.below hb8)
          have HW8 := Lib.hid hw8
          clear hw8 hb8 HD7 HB7
          go_wp2_with (at_builtin; rw [← HW8.out]; refine append_rowG (base := w.heap.size) (size := 1) (xs := icellsI j (toI id)) Tryd.underlying23 info_int43 rfl (by decide) rfl _ _ rfl rfl HD8.out.orow rfl HSL8.out HON8.out ?_ ?_ ?_ ?_; omega; omega; exact hz8)
          intro v9 w9 hr9 hb9 hg9
          have HB9 : Hid (Below w.heap.size w w9) := Lib.hid (HB8.out.trans hb9)
          have HD9 : Hid (DnI w.heap.size w9 (j + 1) (j + 1) (.slice na ll nc) v7 v9 l cv7 nm7) := Lib.hid (HD8.out.ord (by rw [icellsI_id]; exact hr9) hg9)
          clear hr9 hb9 hg9 HD8 HB8 HW8 HSL8 HON8 hz8
          go_wp2_with (fail)
          go_roundw
          case rel => exact ⟨j + 1, l, cv7, nm7, rfl, by omega, HD9, HB9⟩
          case measure => simp [intOf] <;> omega
      | false =>
        obtain ⟨kd, hkd⟩ : ∃ z, 1 + a1 = z := ⟨_, rfl⟩
        have hk12 : kd = 1 ∨ kd = 2 := by omega
        rw [hkd] at HCM
        clear hkd ha01 q2
        rcases hk12 with rfl | rfl
        · cases bb with
          | true =>
            have y0 : wM.cell? ⟨cb, 0, none⟩ = some (.int .i64 (1)) := HCM.out.own.1 0 _ rfl
            have y1 : wM.cell? ⟨cb, 1, none⟩ = some (.string name) := HCM.out.own.1 1 _ rfl
            have y2 : wM.cell? ⟨cb, 2, none⟩ = some (.bool true) := HCM.out.own.1 2 _ rfl
            have y3 : wM.cell? ⟨cb, 3, none⟩ = some (.slice none 0 0) := HCM.out.own.1 3 _ rfl
            have y4 : wM.cell? ⟨cb, 4, none⟩ = some (.int .i64 0) := HCM.out.own.1 4 _ rfl
            have y5 : wM.cell? ⟨cb, 5, none⟩ = some (.int .i64 0) := HCM.out.own.1 5 _ rfl
            have yf := HCM.out.own.2
            obtain ⟨wN, hwN⟩ : ∃ z : World, z = wM.setCell ⟨cb, 2, none⟩ (.bool false) := ⟨_, rfl⟩
            have HCN : Hid (CBlk wN cb ⟨1, name, false, none, 0, 0, 0, 0⟩) := Lib.hid (by rw [hwN]; exact HCM.out.set 2 _ (by omega) rfl)
            have HBN : Hid (Below wo.heap.size wo wN) := Lib.hid (by rw [hwN]; exact HBM.out.setCell (p := ⟨cb, 2, none⟩) hcb _)
            have HWN := Lib.hid hwN
            clear hwN
            have HN : Hid (NewC w.heap.size cb j l (.slice na ll nc) (l) [] ⟨1, name, false, none, 0, 0, 0, 0⟩ wN) := Lib.hid ⟨HCN.out, (HD.out.below HBN.out).nrow, HD.out.lsz, by have := HD.out.llen; omega, ⟨rfl, Row.nil, fun s hs => (by cases hs), HNM.out, Nat.zero_le _⟩, fun beg fin hf => tells_old HAS.out hf⟩
            go_upto_region 24 with (fail)
            rw [← HWN.out]
            clear y0 y1 y2 y3 y4 y5 yf
            clear HWN HCN HCM k0
            obtain ⟨sb, hsb⟩ : ∃ z, decide (j < m) = z := ⟨_, rfl⟩
            have hsbi : decide ((j : Int) < (m : Int)) = sb := by rw [← hsb]; exact decide_eq_decide.2 (by omega)
            have HSB := Lib.hid hsb
            go_upto_if 85 with (fail)
            clear hsb hsbi
            go_cut [12, 13] (fun x y wx => ∃ z : World, z = wx ∧ ∃ ea la : Nat, x = .int .i64 ea ∧ y = .int .i64 la ∧ ea < 16 ∧ la < 16 ∧ Hid (Below wN.heap.size wN wx))
            case first =>
              cases sb with
              | true =>
                have hs : j < m := of_decide_eq_true HSB.out
                have hsi : (j : Int) < (m : Int) := by omega
                obtain ⟨b3, o3, hb3, hk3⟩ := sl_cells (HU.out wN (HB.out.trans (HBN.out.mono hzo))) (by omega)
                subst hb3
                have k3 := hk3 j _ (ucells_get g hs)
                have hx := HG.out j hs
                generalize g j = x at *
                clear hk3 hs
                go_wp2_with (fail)
                go_quiet (fail)
                go_wp2_with (fail)
                go_meet
                exact ⟨wN.drewN nq, rfl, x % 16, x / 16, congrArg (Value.int .i64) (by omega), congrArg (Value.int .i64) (by omega), by omega, by omega, Lib.hid (below_drewN (Below.refl _ _) _)⟩
              | false =>
                go_wp2_with (fail)
                go_meet
                exact ⟨wN, rfl, 0, 0, rfl, rfl, by omega, by omega, Lib.hid (Below.refl _ _)⟩
            case rest =>
              obtain ⟨wc, rfl, ea, la, rfl, rfl, hea, hla, HBC⟩ := hcut
              have HNC := Lib.hid (HN.out.below HBC.out)
              have HBCO : Hid (Below wo.heap.size wo wc) := Lib.hid (HBN.out.trans (HBC.out.mono HBN.out.size))
              have z4 : wc.cell? ⟨cb, 4, none⟩ = some (.int .i64 0) := HNC.out.blk.own.1 4 _ rfl
              have z5 : wc.cell? ⟨cb, 5, none⟩ = some (.int .i64 0) := HNC.out.blk.own.1 5 _ rfl
              have zf := HNC.out.blk.own.2
              have r1 : IntKind.i64.wrap (10 * (j : Int)) = 10 * (j : Int) := IntWalk.i64_in _ (by omega)
              have r2 : IntKind.i64.wrap (3 * (ea : Int)) = 3 * (ea : Int) := IntWalk.i64_in _ (by omega)
              have r3 : IntKind.i64.wrap (10 * (j : Int) - 3 * (ea : Int)) = 10 * (j : Int) - 3 * (ea : Int) := IntWalk.i64_in _ (by omega)
              have r4 : IntKind.i64.wrap (3 * (la : Int)) = 3 * (la : Int) := IntWalk.i64_in _ (by omega)
              have r5 : IntKind.i64.wrap (10 * (j : Int) + 3 * (la : Int)) = 10 * (j : Int) + 3 * (la : Int) := IntWalk.i64_in _ (by omega)
              obtain ⟨wP, hwP⟩ : ∃ z : World, z = (wc.setCell ⟨cb, 4, none⟩ (.int .i64 (10 * (j : Int) - 3 * (ea : Int)))).setCell ⟨cb, 5, none⟩ (.int .i64 (10 * (j : Int) + 3 * (la : Int))) := ⟨_, rfl⟩
              have HNP : Hid (NewC w.heap.size cb j l (.slice na ll nc) l [] ⟨1, name, false, none, 0, 0, 10 * (j : Int) - 3 * (ea : Int), 10 * (j : Int) + 3 * (la : Int)⟩ wP) := Lib.hid (by rw [hwP]; exact (HNC.out.setB _).setF _)
              have HBP : Hid (Below wo.heap.size wo wP) := Lib.hid (by rw [hwP]; exact (HBCO.out.setCell (p := ⟨cb, 4, none⟩) hcb _).setCell (p := ⟨cb, 5, none⟩) hcb _)
              have HWP := Lib.hid hwP
              clear hwP
              go_upto_region 28 with (fail)
              rw [← HWP.out]
              clear z4 z5 zf HWP r1 r2 r3 r4 r5 HN HNC HBN HBC HBCO
              obtain ⟨E, hE⟩ : ∃ z, 10 * (j : Int) + 3 * (la : Int) = z := ⟨_, rfl⟩
              obtain ⟨G, hG⟩ : ∃ z, 10 * (j : Int) - 3 * (ea : Int) = z := ⟨_, rfl⟩
              obtain ⟨F, hF⟩ : ∃ z, max E 0 = z := ⟨_, rfl⟩
              have HTM : Hid (10 * (j : Int) ≤ F ∧ G ≤ 10 * (j : Int)) := Lib.hid (by omega)
              have hnp := HNP.out
              rw [hE, hG] at hnp
              have z5 : wP.cell? ⟨cb, 5, none⟩ = some (.int .i64 E) := hnp.blk.own.1 5 _ rfl
              have zf := hnp.blk.own.2
              obtain ⟨wQ, hwQ⟩ : ∃ z : World, z = wP.setCell ⟨cb, 5, none⟩ (.int .i64 F) := ⟨_, rfl⟩
              have HNQ : Hid (NewC w.heap.size cb j l (.slice na ll nc) l [] ⟨1, name, false, none, 0, 0, G, F⟩ wQ) := Lib.hid (by rw [hwQ]; exact hnp.setF F)
              have HBQ : Hid (Below wo.heap.size wo wQ) := Lib.hid (by rw [hwQ]; exact HBP.out.setCell (p := ⟨cb, 5, none⟩) hcb _)
              have HWQ := Lib.hid hwQ
              clear hwQ hE hG hnp HNP
              go_upto_region 29 with (fail)
              rw [← HWQ.out]
              clear z5 zf HWQ HBP hF
              obtain ⟨wY, hwY⟩ : ∃ z : World, z = wQ.alloc (.cells #[.int .i64 (1), .string name, .bool false, .slice (none) 0 0, .int .i64 G, .int .i64 F] 32) := ⟨_, rfl⟩
              have hby : Below wQ.heap.size wQ wY := by rw [hwY]; exact (Below.refl _ _).alloc (Nat.le_refl _) _
              have HSLY : Hid (Sl wY (wQ.heap.size + 1) 6 (.slice (some ⟨wQ.heap.size, 0, none⟩) 1 1) 1 [.int .i64 (1), .string name, .bool false, .slice (none) 0 0, .int .i64 G, .int .i64 F]) := Lib.hid (by rw [hwY]; exact Sl.new wQ 6 1 [.int .i64 (1), .string name, .bool false, .slice (none) 0 0, .int .i64 G, .int .i64 F] 32 rfl)
              have HONE : Hid (∀ u ∈ ([.int .i64 (1), .string name, .bool false, .slice (none) 0 0, .int .i64 G, .int .i64 F] : List Value), u.oneCell' = true) := Lib.hid (by intro u hu; simp at hu; rcases hu with rfl | rfl | rfl | rfl | rfl | rfl <;> rfl)
              have HBY : Hid (Below wo.heap.size wo wY) := Lib.hid (HBQ.out.trans (hby.mono HBQ.out.size))
              have hzy : w.heap.size ≤ wY.heap.size := Nat.le_trans hzo HBY.out.size
              have HDY := Lib.hid (HD.out.below HBY.out)
              have HNY := Lib.hid (HNQ.out.below hby)
              have HWY := Lib.hid hwY
              have z0 := HNQ.out.blk.own.1 0 _ rfl
              have z1 := HNQ.out.blk.own.1 1 _ rfl
              have z2 := HNQ.out.blk.own.1 2 _ rfl
              have z3 := HNQ.out.blk.own.1 3 _ rfl
              have z4 := HNQ.out.blk.own.1 4 _ rfl
              have z5 := HNQ.out.blk.own.1 5 _ rfl
              clear hwY hby
              go_wp2_with (at_builtin; rw [← HWY.out]; refine append_rowG (base := w.heap.size) (size := 6) (xs := ccells j cv) Tryd.underlying22 info_call rfl (by decide) rfl _ _ rfl rfl HDY.out.crow rfl HSLY.out HONE.out ?_ ?_ ?_ ?_; omega; omega; exact hzy)
              intro v7 w7 hr7 hb7 hg7
              have HB7 : Hid (Below w.heap.size w w7) := Lib.hid ((HB.out.trans (HBY.out.mono hzo)).trans hb7)
              obtain ⟨cv7, nm7, HD7⟩ : ∃ cv7 nm7, Hid (DnI w.heap.size w7 (j + 1) j (.slice na ll nc) v7 (.slice oa j oc) l cv7 nm7) := ⟨_, _, Lib.hid (HDY.out.call (c := ⟨1, name, false, none, 0, 0, G, F⟩) HNY.out.nrow HNY.out.lsz HNY.out.llen hr7 hg7 HNY.out.nsp HTM.out (HNY.out.tl G F (by have := HTM.out.1; omega)))⟩
              clear hr7 hb7 hg7 HDY HNY HBY HWY HSLY HONE hzy z0 z1 z2 z3 z4 z5 HNQ HBQ HTM
              obtain ⟨w8, hw8⟩ : ∃ z : World, z = w7.alloc (.cells #[.int .i64 (j : Nat)] 3) := ⟨_, rfl⟩
              have hb8 : Below w7.heap.size w7 w8 := by rw [hw8]; exact (Below.refl _ _).alloc (Nat.le_refl _) _
              have HSL8 : Hid (Sl w8 (w7.heap.size + 1) 1 (.slice (some ⟨w7.heap.size, 0, none⟩) 1 1) 1 [.int .i64 (j : Nat)]) := Lib.hid (by rw [hw8]; exact Sl.new w7 1 1 [.int .i64 (j : Nat)] 3 rfl)
              have HON8 : Hid (∀ u ∈ ([.int .i64 (j : Nat)] : List Value), u.oneCell' = true) := Lib.hid (by intro u hu; simp at hu; subst hu; rfl)
              have HB8 : Hid (Below w.heap.size w w8) := Lib.hid (HB7.out.trans (hb8.mono HB7.out.size))
              have hz8 := HB8.out.size
              have HD8 := Lib.hid (HD7.out.below hb8)
              have HW8 := Lib.hid hw8
              clear hw8 hb8 HD7 HB7
              go_wp2_with (at_builtin; rw [← HW8.out]; refine append_rowG (base := w.heap.size) (size := 1) (xs := icellsI j (toI id)) Tryd.underlying23 info_int43 rfl (by decide) rfl _ _ rfl rfl HD8.out.orow rfl HSL8.out HON8.out ?_ ?_ ?_ ?_; omega; omega; exact hz8)
              intro v9 w9 hr9 hb9 hg9
              have HB9 : Hid (Below w.heap.size w w9) := Lib.hid (HB8.out.trans hb9)
              have HD9 : Hid (DnI w.heap.size w9 (j + 1) (j + 1) (.slice na ll nc) v7 v9 l cv7 nm7) := Lib.hid (HD8.out.ord (by rw [icellsI_id]; exact hr9) hg9)
              clear hr9 hb9 hg9 HD8 HB8 HW8 HSL8 HON8 hz8
              go_wp2_with (fail)
              go_roundw
              case rel => exact ⟨j + 1, l, cv7, nm7, rfl, by omega, HD9, HB9⟩
              case measure => simp [intOf] <;> omega
          | false =>
            have y0 : wM.cell? ⟨cb, 0, none⟩ = some (.int .i64 (1)) := HCM.out.own.1 0 _ rfl
            have y1 : wM.cell? ⟨cb, 1, none⟩ = some (.string name) := HCM.out.own.1 1 _ rfl
            have y2 : wM.cell? ⟨cb, 2, none⟩ = some (.bool false) := HCM.out.own.1 2 _ rfl
            have y3 : wM.cell? ⟨cb, 3, none⟩ = some (.slice none 0 0) := HCM.out.own.1 3 _ rfl
            have y4 : wM.cell? ⟨cb, 4, none⟩ = some (.int .i64 0) := HCM.out.own.1 4 _ rfl
            have y5 : wM.cell? ⟨cb, 5, none⟩ = some (.int .i64 0) := HCM.out.own.1 5 _ rfl
            have yf := HCM.out.own.2
            obtain ⟨wa, hwa⟩ : ∃ z : World, z = wM.setCell ⟨cb, 2, none⟩ (.bool true) := ⟨_, rfl⟩
            have HCA : Hid (CBlk wa cb ⟨1, name, true, none, 0, 0, 0, 0⟩) := Lib.hid (by rw [hwa]; exact HCM.out.set 2 _ (by omega) rfl)
            have HBA : Hid (Below wo.heap.size wo wa) := Lib.hid (by rw [hwa]; exact HBM.out.setCell (p := ⟨cb, 2, none⟩) hcb _)
            have HWA := Lib.hid hwa
            clear hwa
            go_upto_region 23 with (fail)
            rw [← HWA.out]
            clear y0 y1 y2 y3 y4 y5 yf
            clear HWA HCM HBM k0
            have HSW : Hid (∀ W, Below wa.heap.size wa W → Sl W W.heap.size 1 (.slice na ll nc) ll (scells l)) := Lib.hid (by
              intro W hW
              have h := (HD.out.below (HBA.out.trans (hW.mono HBA.out.size))).nrow.sl
              rwa [HLL.out] at h)
            have HONE : Hid (∀ u ∈ scells l, u.oneCell' = true) := Lib.hid (scells_one l)
            have y1 := HCA.out.own.1 1 _ rfl
            have y1lt := HCA.out.lt
            go_cut [5] (fun x wx => ∃ z : World, z = wx ∧ Hid (Row wa.heap.size 9 1 wx x (ll + 1) (scells (l ++ [name]))) ∧ Hid (Below wa.heap.size wa wx))
            case first =>
              have HX1 : Hid (Below wa.heap.size wa ((wa.drew).alloc (.cells #[] 9))) := Lib.hid (((Below.refl _ wa).drew).alloc (Nat.le_refl _) _)
              have HX2 : Hid (Below wa.heap.size wa (((wa.drew).alloc (.cells #[] 9)).alloc (.cells #[.string name] 9))) := Lib.hid (HX1.out.alloc HX1.out.size _)
              have HX3 : Hid (Below wa.heap.size wa (((wa.drew).alloc (.cells #[.string name] 9)).alloc (.cells #[] 9))) := Lib.hid ((((Below.refl _ wa).drew).alloc (Nat.le_refl _) _).alloc (by simp) _)
              have HE1 := Lib.hid (Row.empty (base := wa.heap.size) (e := 9) (size := 1) wa.drew (Nat.le_refl _))
              have HE2 := Lib.hid (HE1.out.below ((Below.refl _ _).alloc (Nat.le_refl _) (.cells #[.string name] 9)))
              have he3 := Row.empty (base := wa.heap.size) (e := 9) (size := 1) (wa.drew.alloc (.cells #[.string name] 9)) (by simp)
              rw [show (wa.drew.alloc (.cells #[.string name] 9)).heap.size = wa.heap.size + 1 by simp] at he3
              have HE3 := Lib.hid he3
              clear he3
              have HS1 := Lib.hid (HSW.out _ HX1.out)
              have HSX2 := Lib.hid (HSW.out _ HX2.out)
              have HSX3 := Lib.hid (HSW.out _ HX3.out)
              have HC2 : Hid ((((wa.drew).alloc (.cells #[] 9)).alloc (.cells #[.string name] 9)).cell? ⟨wa.heap.size + 1, 0, none⟩ = some (.string name)) := Lib.hid (by rw [World.cell?_alloc_at _ _ _ _ (by simp)]; rfl)
              have HC3 : Hid ((((wa.drew).alloc (.cells #[.string name] 9)).alloc (.cells #[] 9)).cell? ⟨wa.heap.size, 0, none⟩ = some (.string name)) := Lib.hid (by rw [World.cell?_alloc_old _ _ _ (by simp), World.cell?_alloc_at _ _ _ _ (by simp)]; rfl)
              go_wp2_with (fail)
              go_region_law (first
                  | (refine step_append_row Tryd.underlying30 info_str rfl (by decide) rfl (.tmp 75) (.tmp 76) rfl rfl HE1.out rfl HS1.out HONE.out (by omega) (by omega) HX1.out.size ?_
                     intro v77 w77 hr77 hb77 hg77
                     have HB77 := Lib.hid (HX1.out.trans hb77)
                     have HR77 := Lib.hid hr77
                     have e1 := (HCA.out.below HB77.out HCA.out.lt).own.1 1 _ rfl
                     have hz77 := HB77.out.size
                     clear hr77 hb77 hg77)
                  | (refine step_append_row Tryd.underlying30 info_str rfl (by decide) rfl (.tmp 75) (.tmp 76) rfl rfl HE2.out rfl HSX2.out HONE.out (by omega) (by omega) HX2.out.size ?_
                     intro v77 w77 hr77 hb77 hg77
                     have HB77 := Lib.hid (HX2.out.trans hb77)
                     have HR77 := Lib.hid hr77
                     have HY77 := Lib.hid (one_kept HC2.out hg77 (by simp) (by simp))
                     have e1 := (HCA.out.below HB77.out HCA.out.lt).own.1 1 _ rfl
                     have hz77 := HB77.out.size
                     clear hr77 hb77 hg77)
                  | (refine step_append_row Tryd.underlying30 info_str rfl (by decide) rfl (.tmp 75) (.tmp 76) rfl rfl HE3.out rfl HSX3.out HONE.out (by omega) (by omega) HX3.out.size ?_
                     intro v77 w77 hr77 hb77 hg77
                     have HB77 := Lib.hid (HX3.out.trans hb77)
                     have HR77 := Lib.hid hr77
                     have HY77 := Lib.hid (one_kept HC3.out hg77 (by simp <;> omega) (by simp <;> omega))
                     have e1 := (HCA.out.below HB77.out HCA.out.lt).own.1 1 _ rfl
                     have hz77 := HB77.out.size
                     clear hr77 hb77 hg77)
                  | (refine step_append_row Tryd.underlying30 info_str rfl (by decide) rfl (.tmp 77) (.tmp 80) rfl rfl HR77.out rfl HY77.out (by intro u hu; simp at hu; subst hu; rfl) (by omega) (by omega) hz77 ?_
                     intro v81 w81 hr81 hb81 hg81
                     have HB81 := Lib.hid (HB77.out.trans hb81)
                     have HR81 := Lib.hid hr81
                     have e1 := (HCA.out.below HB81.out HCA.out.lt).own.1 1 _ rfl
                     clear hr81 hb81 hg81)
                  | (refine step_append_row Tryd.underlying30 info_str rfl (by decide) rfl (.tmp 77) (.tmp 80) rfl rfl (HR77.out.below ((Below.refl _ _).alloc (Nat.le_refl _) (.cells #[.string name] 9))) rfl (Sl.new w77 1 1 [.string name] 9 rfl) (by intro u hu; simp at hu; subst hu; rfl) (by omega) (by omega) (by simp; omega) ?_
                     intro v81 w81 hr81 hb81 hg81
                     have HB81 := Lib.hid ((HB77.out.alloc hz77 _).trans hb81)
                     have HR81 := Lib.hid hr81
                     have e1 := (HCA.out.below HB81.out HCA.out.lt).own.1 1 _ rfl
                     clear hr81 hb81 hg81))
              all_goals
                go_wp2_with (fail)
                go_meet
                exact ⟨_, rfl, Lib.hid (by
                  have := HR81.out
                  rw [Nat.zero_add, List.nil_append] at this
                  rw [scells_app]
                  exact this), HB81⟩
            case rest =>
              obtain ⟨wN, rfl, HRW, HBW⟩ := hcut
              have hza := hzo
              have HRN : Hid (Row w.heap.size 9 1 wN u5 (ll + 1) (scells (l ++ [name]))) := Lib.hid (HRW.out.mono (Nat.le_trans hzo HBA.out.size))
              have HCN := Lib.hid (HCA.out.below HBW.out HCA.out.lt)
              have HBN : Hid (Below wo.heap.size wo wN) := Lib.hid (HBA.out.trans (HBW.out.mono HBA.out.size))
              clear y1 y1lt HRW HBW HBA HCA HSW HONE hza
              have HN : Hid (NewC w.heap.size cb j l u5 ((l ++ [name])) [] ⟨1, name, true, none, 0, 0, 0, 0⟩ wN) := Lib.hid ⟨HCN.out, (by rw [List.length_append, HLL.out]; exact HRN.out), (by intro s hs; rcases List.mem_append.1 hs with h | h; exact HD.out.lsz s h; rw [List.mem_singleton.1 h]; exact HNM.out), (by rw [List.length_append]; have := HD.out.llen; simp; omega), ⟨rfl, Row.nil, fun s hs => (by cases hs), HNM.out, Nat.zero_le _⟩, fun beg fin _ => tells_new HAS.out⟩
              go_upto_region 24 with (fail)
              clear HCN HRN
              obtain ⟨sb, hsb⟩ : ∃ z, decide (j < m) = z := ⟨_, rfl⟩
              have hsbi : decide ((j : Int) < (m : Int)) = sb := by rw [← hsb]; exact decide_eq_decide.2 (by omega)
              have HSB := Lib.hid hsb
              go_upto_if 85 with (fail)
              clear hsb hsbi
              go_cut [12, 13] (fun x y wx => ∃ z : World, z = wx ∧ ∃ ea la : Nat, x = .int .i64 ea ∧ y = .int .i64 la ∧ ea < 16 ∧ la < 16 ∧ Hid (Below wN.heap.size wN wx))
              case first =>
                cases sb with
                | true =>
                  have hs : j < m := of_decide_eq_true HSB.out
                  have hsi : (j : Int) < (m : Int) := by omega
                  obtain ⟨b3, o3, hb3, hk3⟩ := sl_cells (HU.out wN (HB.out.trans (HBN.out.mono hzo))) (by omega)
                  subst hb3
                  have k3 := hk3 j _ (ucells_get g hs)
                  have hx := HG.out j hs
                  generalize g j = x at *
                  clear hk3 hs
                  go_wp2_with (fail)
                  go_quiet (fail)
                  go_wp2_with (fail)
                  go_meet
                  exact ⟨wN.drewN nq, rfl, x % 16, x / 16, congrArg (Value.int .i64) (by omega), congrArg (Value.int .i64) (by omega), by omega, by omega, Lib.hid (below_drewN (Below.refl _ _) _)⟩
                | false =>
                  go_wp2_with (fail)
                  go_meet
                  exact ⟨wN, rfl, 0, 0, rfl, rfl, by omega, by omega, Lib.hid (Below.refl _ _)⟩
              case rest =>
                obtain ⟨wc, rfl, ea, la, rfl, rfl, hea, hla, HBC⟩ := hcut
                have HNC := Lib.hid (HN.out.below HBC.out)
                have HBCO : Hid (Below wo.heap.size wo wc) := Lib.hid (HBN.out.trans (HBC.out.mono HBN.out.size))
                have z4 : wc.cell? ⟨cb, 4, none⟩ = some (.int .i64 0) := HNC.out.blk.own.1 4 _ rfl
                have z5 : wc.cell? ⟨cb, 5, none⟩ = some (.int .i64 0) := HNC.out.blk.own.1 5 _ rfl
                have zf := HNC.out.blk.own.2
                have r1 : IntKind.i64.wrap (10 * (j : Int)) = 10 * (j : Int) := IntWalk.i64_in _ (by omega)
                have r2 : IntKind.i64.wrap (3 * (ea : Int)) = 3 * (ea : Int) := IntWalk.i64_in _ (by omega)
                have r3 : IntKind.i64.wrap (10 * (j : Int) - 3 * (ea : Int)) = 10 * (j : Int) - 3 * (ea : Int) := IntWalk.i64_in _ (by omega)
                have r4 : IntKind.i64.wrap (3 * (la : Int)) = 3 * (la : Int) := IntWalk.i64_in _ (by omega)
                have r5 : IntKind.i64.wrap (10 * (j : Int) + 3 * (la : Int)) = 10 * (j : Int) + 3 * (la : Int) := IntWalk.i64_in _ (by omega)
                obtain ⟨wP, hwP⟩ : ∃ z : World, z = (wc.setCell ⟨cb, 4, none⟩ (.int .i64 (10 * (j : Int) - 3 * (ea : Int)))).setCell ⟨cb, 5, none⟩ (.int .i64 (10 * (j : Int) + 3 * (la : Int))) := ⟨_, rfl⟩
                have HNP : Hid (NewC w.heap.size cb j l u5 (l ++ [name]) [] ⟨1, name, true, none, 0, 0, 10 * (j : Int) - 3 * (ea : Int), 10 * (j : Int) + 3 * (la : Int)⟩ wP) := Lib.hid (by rw [hwP]; exact (HNC.out.setB _).setF _)
                have HBP : Hid (Below wo.heap.size wo wP) := Lib.hid (by rw [hwP]; exact (HBCO.out.setCell (p := ⟨cb, 4, none⟩) hcb _).setCell (p := ⟨cb, 5, none⟩) hcb _)
                have HWP := Lib.hid hwP
                clear hwP
                go_upto_region 28 with (fail)
                rw [← HWP.out]
                clear z4 z5 zf HWP r1 r2 r3 r4 r5 HN HNC HBN HBC HBCO
                obtain ⟨E, hE⟩ : ∃ z, 10 * (j : Int) + 3 * (la : Int) = z := ⟨_, rfl⟩
                obtain ⟨G, hG⟩ : ∃ z, 10 * (j : Int) - 3 * (ea : Int) = z := ⟨_, rfl⟩
                obtain ⟨F, hF⟩ : ∃ z, max E 0 = z := ⟨_, rfl⟩
                have HTM : Hid (10 * (j : Int) ≤ F ∧ G ≤ 10 * (j : Int)) := Lib.hid (by omega)
                have hnp := HNP.out
                rw [hE, hG] at hnp
                have z5 : wP.cell? ⟨cb, 5, none⟩ = some (.int .i64 E) := hnp.blk.own.1 5 _ rfl
                have zf := hnp.blk.own.2
                obtain ⟨wQ, hwQ⟩ : ∃ z : World, z = wP.setCell ⟨cb, 5, none⟩ (.int .i64 F) := ⟨_, rfl⟩
                have HNQ : Hid (NewC w.heap.size cb j l u5 (l ++ [name]) [] ⟨1, name, true, none, 0, 0, G, F⟩ wQ) := Lib.hid (by rw [hwQ]; exact hnp.setF F)
                have HBQ : Hid (Below wo.heap.size wo wQ) := Lib.hid (by rw [hwQ]; exact HBP.out.setCell (p := ⟨cb, 5, none⟩) hcb _)
                have HWQ := Lib.hid hwQ
                clear hwQ hE hG hnp HNP
                go_upto_region 29 with (fail)
                rw [← HWQ.out]
                clear z5 zf HWQ HBP hF
                obtain ⟨wY, hwY⟩ : ∃ z : World, z = wQ.alloc (.cells #[.int .i64 (1), .string name, .bool true, .slice (none) 0 0, .int .i64 G, .int .i64 F] 32) := ⟨_, rfl⟩
                have hby : Below wQ.heap.size wQ wY := by rw [hwY]; exact (Below.refl _ _).alloc (Nat.le_refl _) _
                have HSLY : Hid (Sl wY (wQ.heap.size + 1) 6 (.slice (some ⟨wQ.heap.size, 0, none⟩) 1 1) 1 [.int .i64 (1), .string name, .bool true, .slice (none) 0 0, .int .i64 G, .int .i64 F]) := Lib.hid (by rw [hwY]; exact Sl.new wQ 6 1 [.int .i64 (1), .string name, .bool true, .slice (none) 0 0, .int .i64 G, .int .i64 F] 32 rfl)
                have HONE : Hid (∀ u ∈ ([.int .i64 (1), .string name, .bool true, .slice (none) 0 0, .int .i64 G, .int .i64 F] : List Value), u.oneCell' = true) := Lib.hid (by intro u hu; simp at hu; rcases hu with rfl | rfl | rfl | rfl | rfl | rfl <;> rfl)
                have HBY : Hid (Below wo.heap.size wo wY) := Lib.hid (HBQ.out.trans (hby.mono HBQ.out.size))
                have hzy : w.heap.size ≤ wY.heap.size := Nat.le_trans hzo HBY.out.size
                have HDY := Lib.hid (HD.out.below HBY.out)
                have HNY := Lib.hid (HNQ.out.below hby)
                have HWY := Lib.hid hwY
                have z0 := HNQ.out.blk.own.1 0 _ rfl
                have z1 := HNQ.out.blk.own.1 1 _ rfl
                have z2 := HNQ.out.blk.own.1 2 _ rfl
                have z3 := HNQ.out.blk.own.1 3 _ rfl
                have z4 := HNQ.out.blk.own.1 4 _ rfl
                have z5 := HNQ.out.blk.own.1 5 _ rfl
                clear hwY hby
                go_wp2_with (at_builtin; rw [← HWY.out]; refine append_rowG (base := w.heap.size) (size := 6) (xs := ccells j cv) Tryd.underlying22 info_call rfl (by decide) rfl _ _ rfl rfl HDY.out.crow rfl HSLY.out HONE.out ?_ ?_ ?_ ?_; omega; omega; exact hzy)
                intro v7 w7 hr7 hb7 hg7
                have HB7 : Hid (Below w.heap.size w w7) := Lib.hid ((HB.out.trans (HBY.out.mono hzo)).trans hb7)
                obtain ⟨cv7, nm7, HD7⟩ : ∃ cv7 nm7, Hid (DnI w.heap.size w7 (j + 1) j u5 v7 (.slice oa j oc) (l ++ [name]) cv7 nm7) := ⟨_, _, Lib.hid (HDY.out.call (c := ⟨1, name, true, none, 0, 0, G, F⟩) HNY.out.nrow HNY.out.lsz HNY.out.llen hr7 hg7 HNY.out.nsp HTM.out (HNY.out.tl G F (by have := HTM.out.1; omega)))⟩
                clear hr7 hb7 hg7 HDY HNY HBY HWY HSLY HONE hzy z0 z1 z2 z3 z4 z5 HNQ HBQ HTM
                obtain ⟨w8, hw8⟩ : ∃ z : World, z = w7.alloc (.cells #[.int .i64 (j : Nat)] 3) := ⟨_, rfl⟩
                have hb8 : Below w7.heap.size w7 w8 := by rw [hw8]; exact (Below.refl _ _).alloc (Nat.le_refl _) _
                have HSL8 : Hid (Sl w8 (w7.heap.size + 1) 1 (.slice (some ⟨w7.heap.size, 0, none⟩) 1 1) 1 [.int .i64 (j : Nat)]) := Lib.hid (by rw [hw8]; exact Sl.new w7 1 1 [.int .i64 (j : Nat)] 3 rfl)
                have HON8 : Hid (∀ u ∈ ([.int .i64 (j : Nat)] : List Value), u.oneCell' = true) := Lib.hid (by intro u hu; simp at hu; subst hu; rfl)
                have HB8 : Hid (Below w.heap.size w w8) := Lib.hid (HB7.out.trans (hb8.mono HB7.out.size))
                have hz8 := HB8.out.size
                have HD8 := Lib.hid (HD7.out.below hb8)
                have HW8 := Lib.hid hw8
                clear hw8 hb8 HD7 HB7
                go_wp2_with (at_builtin; rw [← HW8.out]; refine append_rowG (base := w.heap.size) (size := 1) (xs := icellsI j (toI id)) Tryd.underlying23 info_int43 rfl (by decide) rfl _ _ rfl rfl HD8.out.orow rfl HSL8.out HON8.out ?_ ?_ ?_ ?_; omega; omega; exact hz8)
                intro v9 w9 hr9 hb9 hg9
                have HB9 : Hid (Below w.heap.size w w9) := Lib.hid (HB8.out.trans hb9)
                have HD9 : Hid (DnI w.heap.size w9 (j + 1) (j + 1) u5 v7 v9 (l ++ [name]) cv7 nm7) := Lib.hid (HD8.out.ord (by rw [icellsI_id]; exact hr9) hg9)
                clear hr9 hb9 hg9 HD8 HB8 HW8 HSL8 HON8 hz8
                go_wp2_with (fail)
                go_roundw
                case rel => exact ⟨j + 1, (l ++ [name]), cv7, nm7, rfl, by omega, HD9, HB9⟩
                case measure => simp [intOf] <;> omega
        · 
          have y0 : wM.cell? ⟨cb, 0, none⟩ = some (.int .i64 (2)) := HCM.out.own.1 0 _ rfl
          have y1 : wM.cell? ⟨cb, 1, none⟩ = some (.string name) := HCM.out.own.1 1 _ rfl
          have y2 : wM.cell? ⟨cb, 2, none⟩ = some (.bool bb) := HCM.out.own.1 2 _ rfl
          have y3 : wM.cell? ⟨cb, 3, none⟩ = some (.slice none 0 0) := HCM.out.own.1 3 _ rfl
          have y4 : wM.cell? ⟨cb, 4, none⟩ = some (.int .i64 0) := HCM.out.own.1 4 _ rfl
          have y5 : wM.cell? ⟨cb, 5, none⟩ = some (.int .i64 0) := HCM.out.own.1 5 _ rfl
          have yf := HCM.out.own.2
          obtain ⟨wN, rfl⟩ : ∃ z : World, z = wM := ⟨_, rfl⟩
          have HCN := HCM
          have HBN := HBM
          have HN : Hid (NewC w.heap.size cb j l (.slice na ll nc) (l) [] ⟨2, name, bb, none, 0, 0, 0, 0⟩ wN) := Lib.hid ⟨HCN.out, (HD.out.below HBN.out).nrow, HD.out.lsz, by have := HD.out.llen; omega, ⟨rfl, Row.nil, fun s hs => (by cases hs), HNM.out, Nat.zero_le _⟩, fun beg fin _ => tells_has HAS.out⟩
          go_upto_region 24 with (fail)
          clear y0 y1 y2 y3 y4 y5 yf
          clear HCN HCM HBM k0
          obtain ⟨sb, hsb⟩ : ∃ z, decide (j < m) = z := ⟨_, rfl⟩
          have hsbi : decide ((j : Int) < (m : Int)) = sb := by rw [← hsb]; exact decide_eq_decide.2 (by omega)
          have HSB := Lib.hid hsb
          go_upto_if 85 with (fail)
          clear hsb hsbi
          go_cut [12, 13] (fun x y wx => ∃ z : World, z = wx ∧ ∃ ea la : Nat, x = .int .i64 ea ∧ y = .int .i64 la ∧ ea < 16 ∧ la < 16 ∧ Hid (Below wN.heap.size wN wx))
          case first =>
            cases sb with
            | true =>
              have hs : j < m := of_decide_eq_true HSB.out
              have hsi : (j : Int) < (m : Int) := by omega
              obtain ⟨b3, o3, hb3, hk3⟩ := sl_cells (HU.out wN (HB.out.trans (HBN.out.mono hzo))) (by omega)
              subst hb3
              have k3 := hk3 j _ (ucells_get g hs)
              have hx := HG.out j hs
              generalize g j = x at *
              clear hk3 hs
              go_wp2_with (fail)
              go_quiet (fail)
              go_wp2_with (fail)
              go_meet
              exact ⟨wN.drewN nq, rfl, x % 16, x / 16, congrArg (Value.int .i64) (by omega), congrArg (Value.int .i64) (by omega), by omega, by omega, Lib.hid (below_drewN (Below.refl _ _) _)⟩
            | false =>
              go_wp2_with (fail)
              go_meet
              exact ⟨wN, rfl, 0, 0, rfl, rfl, by omega, by omega, Lib.hid (Below.refl _ _)⟩
          case rest =>
            obtain ⟨wc, rfl, ea, la, rfl, rfl, hea, hla, HBC⟩ := hcut
            have HNC := Lib.hid (HN.out.below HBC.out)
            have HBCO : Hid (Below wo.heap.size wo wc) := Lib.hid (HBN.out.trans (HBC.out.mono HBN.out.size))
            have z4 : wc.cell? ⟨cb, 4, none⟩ = some (.int .i64 0) := HNC.out.blk.own.1 4 _ rfl
            have z5 : wc.cell? ⟨cb, 5, none⟩ = some (.int .i64 0) := HNC.out.blk.own.1 5 _ rfl
            have zf := HNC.out.blk.own.2
            have r1 : IntKind.i64.wrap (10 * (j : Int)) = 10 * (j : Int) := IntWalk.i64_in _ (by omega)
            have r2 : IntKind.i64.wrap (3 * (ea : Int)) = 3 * (ea : Int) := IntWalk.i64_in _ (by omega)
            have r3 : IntKind.i64.wrap (10 * (j : Int) - 3 * (ea : Int)) = 10 * (j : Int) - 3 * (ea : Int) := IntWalk.i64_in _ (by omega)
            have r4 : IntKind.i64.wrap (3 * (la : Int)) = 3 * (la : Int) := IntWalk.i64_in _ (by omega)
            have r5 : IntKind.i64.wrap (10 * (j : Int) + 3 * (la : Int)) = 10 * (j : Int) + 3 * (la : Int) := IntWalk.i64_in _ (by omega)
            obtain ⟨wP, hwP⟩ : ∃ z : World, z = (wc.setCell ⟨cb, 4, none⟩ (.int .i64 (10 * (j : Int) - 3 * (ea : Int)))).setCell ⟨cb, 5, none⟩ (.int .i64 (10 * (j : Int) + 3 * (la : Int))) := ⟨_, rfl⟩
            have HNP : Hid (NewC w.heap.size cb j l (.slice na ll nc) l [] ⟨2, name, bb, none, 0, 0, 10 * (j : Int) - 3 * (ea : Int), 10 * (j : Int) + 3 * (la : Int)⟩ wP) := Lib.hid (by rw [hwP]; exact (HNC.out.setB _).setF _)
            have HBP : Hid (Below wo.heap.size wo wP) := Lib.hid (by rw [hwP]; exact (HBCO.out.setCell (p := ⟨cb, 4, none⟩) hcb _).setCell (p := ⟨cb, 5, none⟩) hcb _)
            have HWP := Lib.hid hwP
            clear hwP
            go_upto_region 28 with (fail)
            rw [← HWP.out]
            clear z4 z5 zf HWP r1 r2 r3 r4 r5 HN HNC HBN HBC HBCO
            obtain ⟨E, hE⟩ : ∃ z, 10 * (j : Int) + 3 * (la : Int) = z := ⟨_, rfl⟩
            obtain ⟨G, hG⟩ : ∃ z, 10 * (j : Int) - 3 * (ea : Int) = z := ⟨_, rfl⟩
            obtain ⟨F, hF⟩ : ∃ z, max E 0 = z := ⟨_, rfl⟩
            have HTM : Hid (10 * (j : Int) ≤ F ∧ G ≤ 10 * (j : Int)) := Lib.hid (by omega)
            have hnp := HNP.out
            rw [hE, hG] at hnp
            have z5 : wP.cell? ⟨cb, 5, none⟩ = some (.int .i64 E) := hnp.blk.own.1 5 _ rfl
            have zf := hnp.blk.own.2
            obtain ⟨wQ, hwQ⟩ : ∃ z : World, z = wP.setCell ⟨cb, 5, none⟩ (.int .i64 F) := ⟨_, rfl⟩
            have HNQ : Hid (NewC w.heap.size cb j l (.slice na ll nc) l [] ⟨2, name, bb, none, 0, 0, G, F⟩ wQ) := Lib.hid (by rw [hwQ]; exact hnp.setF F)
            have HBQ : Hid (Below wo.heap.size wo wQ) := Lib.hid (by rw [hwQ]; exact HBP.out.setCell (p := ⟨cb, 5, none⟩) hcb _)
            have HWQ := Lib.hid hwQ
            clear hwQ hE hG hnp HNP
            go_upto_region 29 with (fail)
            rw [← HWQ.out]
            clear z5 zf HWQ HBP hF
            obtain ⟨wY, hwY⟩ : ∃ z : World, z = wQ.alloc (.cells #[.int .i64 (2), .string name, .bool bb, .slice (none) 0 0, .int .i64 G, .int .i64 F] 32) := ⟨_, rfl⟩
            have hby : Below wQ.heap.size wQ wY := by rw [hwY]; exact (Below.refl _ _).alloc (Nat.le_refl _) _
            have HSLY : Hid (Sl wY (wQ.heap.size + 1) 6 (.slice (some ⟨wQ.heap.size, 0, none⟩) 1 1) 1 [.int .i64 (2), .string name, .bool bb, .slice (none) 0 0, .int .i64 G, .int .i64 F]) := Lib.hid (by rw [hwY]; exact Sl.new wQ 6 1 [.int .i64 (2), .string name, .bool bb, .slice (none) 0 0, .int .i64 G, .int .i64 F] 32 rfl)
            have HONE : Hid (∀ u ∈ ([.int .i64 (2), .string name, .bool bb, .slice (none) 0 0, .int .i64 G, .int .i64 F] : List Value), u.oneCell' = true) := Lib.hid (by intro u hu; simp at hu; rcases hu with rfl | rfl | rfl | rfl | rfl | rfl <;> rfl)
            have HBY : Hid (Below wo.heap.size wo wY) := Lib.hid (HBQ.out.trans (hby.mono HBQ.out.size))
            have hzy : w.heap.size ≤ wY.heap.size := Nat.le_trans hzo HBY.out.size
            have HDY := Lib.hid (HD.out.below HBY.out)
            have HNY := Lib.hid (HNQ.out.below hby)
            have HWY := Lib.hid hwY
            have z0 := HNQ.out.blk.own.1 0 _ rfl
            have z1 := HNQ.out.blk.own.1 1 _ rfl
            have z2 := HNQ.out.blk.own.1 2 _ rfl
            have z3 := HNQ.out.blk.own.1 3 _ rfl
            have z4 := HNQ.out.blk.own.1 4 _ rfl
            have z5 := HNQ.out.blk.own.1 5 _ rfl
            clear hwY hby
            go_wp2_with (at_builtin; rw [← HWY.out]; refine append_rowG (base := w.heap.size) (size := 6) (xs := ccells j cv) Tryd.underlying22 info_call rfl (by decide) rfl _ _ rfl rfl HDY.out.crow rfl HSLY.out HONE.out ?_ ?_ ?_ ?_; omega; omega; exact hzy)
            intro v7 w7 hr7 hb7 hg7
            have HB7 : Hid (Below w.heap.size w w7) := Lib.hid ((HB.out.trans (HBY.out.mono hzo)).trans hb7)
            obtain ⟨cv7, nm7, HD7⟩ : ∃ cv7 nm7, Hid (DnI w.heap.size w7 (j + 1) j (.slice na ll nc) v7 (.slice oa j oc) l cv7 nm7) := ⟨_, _, Lib.hid (HDY.out.call (c := ⟨2, name, bb, none, 0, 0, G, F⟩) HNY.out.nrow HNY.out.lsz HNY.out.llen hr7 hg7 HNY.out.nsp HTM.out (HNY.out.tl G F (by have := HTM.out.1; omega)))⟩
            clear hr7 hb7 hg7 HDY HNY HBY HWY HSLY HONE hzy z0 z1 z2 z3 z4 z5 HNQ HBQ HTM
            obtain ⟨w8, hw8⟩ : ∃ z : World, z = w7.alloc (.cells #[.int .i64 (j : Nat)] 3) := ⟨_, rfl⟩
            have hb8 : Below w7.heap.size w7 w8 := by rw [hw8]; exact (Below.refl _ _).alloc (Nat.le_refl _) _
            have HSL8 : Hid (Sl w8 (w7.heap.size + 1) 1 (.slice (some ⟨w7.heap.size, 0, none⟩) 1 1) 1 [.int .i64 (j : Nat)]) := Lib.hid (by rw [hw8]; exact Sl.new w7 1 1 [.int .i64 (j : Nat)] 3 rfl)
            have HON8 : Hid (∀ u ∈ ([.int .i64 (j : Nat)] : List Value), u.oneCell' = true) := Lib.hid (by intro u hu; simp at hu; subst hu; rfl)
            have HB8 : Hid (Below w.heap.size w w8) := Lib.hid (HB7.out.trans (hb8.mono HB7.out.size))
            have hz8 := HB8.out.size
            have HD8 := Lib.hid (HD7.out.below hb8)
            have HW8 := Lib.hid hw8
            clear hw8 hb8 HD7 HB7
            go_wp2_with (at_builtin; rw [← HW8.out]; refine append_rowG (base := w.heap.size) (size := 1) (xs := icellsI j (toI id)) Tryd.underlying23 info_int43 rfl (by decide) rfl _ _ rfl rfl HD8.out.orow rfl HSL8.out HON8.out ?_ ?_ ?_ ?_; omega; omega; exact hz8)
            intro v9 w9 hr9 hb9 hg9
            have HB9 : Hid (Below w.heap.size w w9) := Lib.hid (HB8.out.trans hb9)
            have HD9 : Hid (DnI w.heap.size w9 (j + 1) (j + 1) (.slice na ll nc) v7 v9 l cv7 nm7) := Lib.hid (HD8.out.ord (by rw [icellsI_id]; exact hr9) hg9)
            clear hr9 hb9 hg9 HD8 HB8 HW8 HSL8 HON8 hz8
            go_wp2_with (fail)
            go_roundw
            case rel => exact ⟨j + 1, l, cv7, nm7, rfl, by omega, HD9, HB9⟩
            case measure => simp [intOf] <;> omega
end Go.Proofs.YtmcbgjkogggneaaDoor
