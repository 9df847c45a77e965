/- (*model).do. -/
import Derived.Test.YtmcbgjkogggneaaDoorLkB
namespace Go.Proofs.YtmcbgjkogggneaaDoor
set_option maxRecDepth 100000
set_option linter.unusedVariables false
set_option linter.unusedSimpArgs false
open Go.RowKit Go.Maps Go.WideMaps
/-- The list on which calls are carried out. -/
structure ModelAt (w : World) (mb mm base : Nat) (l : List ByteArray) : Prop where
  lt1 : mm < mb
  lt2 : mb < base
  lt3 : base ≤ w.heap.size
  ex : ∃ v D n, Own w mb [v, .map (some mm)] ∧ Row base 9 1 w v l.length (scells l) ∧ Mp w mm n D ∧ n ≤ l.length ∧ ∀ s : ByteArray, s.size ≤ maxLen → Maps.has D (keyL s) = hasL l s
theorem ModelAt.below {w w' : World} {mb mm base : Nat} {l : List ByteArray} (h : ModelAt w mb mm base l) (hb : Below w.heap.size w w') : ModelAt w' mb mm base l := by
  obtain ⟨h1, h2, h3, v, D, n, ho, hr, hm, hn, hh⟩ := h
  exact ⟨h1, h2, Nat.le_trans h3 hb.size, v, D, n, ho.below hb (by omega), hr.below hb, hm.below hb, hn, hh⟩
theorem hasL_snoc (l : List ByteArray) (s t : ByteArray) : hasL (l ++ [s]) t = (hasL l t || decide (s = t)) := by
  unfold hasL
  rw [List.any_append]
  simp
theorem keyL_inj {s t : ByteArray} : keyL s = keyL t ↔ s = t := by
  unfold keyL
  constructor
  · intro h
    injection h with h
    exact ByteArray.ext (Array.toList_inj.1 h)
  · intro h; rw [h]
theorem Row.kept_lt {base e size n b : Nat} {w w' : World} {v : Value} {xs : List Value} (h : Row base e size w v n xs) (hg : w.grownBy w' (some b)) (hb : b < base) : Row base e size w' v n xs := by
  refine World.ownsRow.kept h hg ?_
  cases hv : v.ownBlock with
  | none => exact .inl rfl
  | some k =>
    right
    intro e
    have := (h.lt k hv).1
    injection e with e
    omega
theorem row_block_ne {base e size n b : Nat} {w : World} {v : Value} {xs : List Value} (h : Row base e size w v n xs) (hb : b < base ∨ w.heap.size ≤ b) : some b ≠ v.ownBlock := by
  intro e
  have := h.lt b e.symm
  omega
theorem has_put {D : DataW Unit} {l : List ByteArray} {s : ByteArray} {d : DataW Unit} (hD : IsMap D) (hh : ∀ s : ByteArray, s.size ≤ maxLen → Maps.has D (keyL s) = hasL l s) : ∀ t : ByteArray, t.size ≤ maxLen → Maps.has (D.put (keyL s) d) (keyL t) = hasL (l ++ [s]) t := by
  intro t ht
  rw [hasL_snoc]
  by_cases e : s = t
  · subst e
    rw [has_put_same hD (by unfold keyL; simp [WideAt.IsKeyLit]) d]
    simp
  · rw [has_put_other (fun h => e (keyL_inj.1 h).symm) d, hh t ht, decide_eq_false e, Bool.or_false]
/-- What a call of do leaves as it was. -/
def StrBlk (w : World) (b : Nat) : Prop := ∃ cur, w.heap[b]? = some (.cells cur 9 (0, 0))
structure FrD (mb mm base : Nat) (w w' : World) : Prop where
  os : w'.os = w.os
  tape : w'.tape = w.tape
  output : w'.output = w.output
  size : w.heap.size ≤ w'.heap.size
  block : ∀ b, b < w.heap.size → b ≠ mm → b ≠ mb → (b < base ∨ ¬ StrBlk w b) → w'.heap[b]? = w.heap[b]?
theorem FrD.trans {mb mm base : Nat} {w w' w'' : World} (h : FrD mb mm base w w') (k : FrD mb mm base w' w'') : FrD mb mm base w w'' :=
  ⟨k.os.trans h.os, k.tape.trans h.tape, k.output.trans h.output, Nat.le_trans h.size k.size, fun b h1 h2 h3 h4 => by
    have e := h.block b h1 h2 h3 h4
    refine (k.block b (Nat.lt_of_lt_of_le h1 h.size) h2 h3 ?_).trans e
    rcases h4 with h4 | h4
    · exact .inl h4
    · exact .inr (fun ⟨c, hc⟩ => h4 ⟨c, by rw [← e]; exact hc⟩)⟩
theorem FrD.of_below {mb mm base : Nat} {w w' : World} (h : Below w.heap.size w w') : FrD mb mm base w w' := ⟨h.os, h.tape, h.output, h.size, fun b h1 _ _ _ => h.block b h1⟩
theorem FrD.of_mm {mb mm base : Nat} {w w' : World} (h : w.grownBy w' (some mm)) : FrD mb mm base w w' := ⟨h.os, h.tape, h.output, h.size, fun b h1 h2 _ _ => h.block b h1 (fun e => h2 (by injection e))⟩
theorem FrD.of_row {mb mm base size n : Nat} {w w' : World} {v : Value} {xs : List Value} (hr : Row base 9 size w v n xs) (h : w.grownBy w' v.ownBlock) : FrD mb mm base w w' := ⟨h.os, h.tape, h.output, h.size, fun b h1 _ _ h4 => h.block b h1 (fun e => by
  rcases hr.2 with ⟨hv, _⟩ | ⟨g, cap, cur, hv, hg, hh, _⟩
  · rw [hv] at e; cases e
  · rw [hv] at e
    injection e with e
    subst e
    rcases h4 with h4 | h4
    · omega
    · exact h4 ⟨cur, hh⟩)⟩
theorem FrD.setMb (mb mm base : Nat) (w : World) (k : Nat) (x : Value) : FrD mb mm base w (w.setCell ⟨mb, k, none⟩ x) := by
  have h : Below mb w (w.setCell ⟨mb, k, none⟩ x) := (Below.refl mb w).setCell (p := ⟨mb, k, none⟩) (Nat.le_refl _) x
  exact ⟨h.os, h.tape, h.output, h.size, fun b _ _ h3 _ => heap_setCell_other w ⟨mb, k, none⟩ b x (fun e => h3 e)⟩
/-- What a call of do leaves. -/
def Do_p (l : List ByteArray) (c : CallV) (ns : List ByteArray) (mb mm base : Nat) (w : World) (e : Ending) (w' : World) : Prop :=
  e = .returned (.bool (tells l c ns).2) ∧ ModelAt w' mb mm base (tells l c ns).1 ∧ Below mm w w' ∧ FrD mb mm base w w'
theorem Do_p.mk {l l' : List ByteArray} {c : CallV} {ns : List ByteArray} {mb mm base : Nat} {w w' : World} {ok : Bool} (h : tells l c ns = (l', ok)) (hm : ModelAt w' mb mm base l') (hb : Below mm w w' ∧ FrD mb mm base w w') : Do_p l c ns mb mm base w (.returned (.bool ok)) w' := by
  refine ⟨by rw [h], ?_, hb⟩
  rw [h]
  exact hm
set_option maxHeartbeats 8000000 in
theorem do_put (mb mm base : Nat) (l ns : List ByteArray) (c : CallV) (w : World) (h : ModelAt w mb mm base l) (hl : l.length ≤ 1000) (hs : c.name.size ≤ maxLen) (hk : c.kind = 1) :
    Calls Tryd.prog 34 #[.pointer (some ⟨mb, 0, none⟩), c.agg] w (Do_p l c ns mb mm base w) := by
  have HH := Lib.hid h
  obtain ⟨lt1, lt2, lt3, v, D, n, ho, hr, hm, hn, hh⟩ := h
  have HMU := Lib.hid (must_any c)
  obtain ⟨kind, name, told, na, nn, nc, beg, fin⟩ := c
  simp only at hs hk ⊢
  have HTE : Hid (tells l ⟨kind, name, told, na, nn, nc, beg, fin⟩ ns = if kind = 1 then (if hasL l name then (l, decide (0 ≤ fin) && !told) else (l ++ [name], decide (fin < 0) || told)) else if kind = 2 then (l, told == hasL l name) else if kind = 3 then (l, decide (l = ns)) else (l, false)) := rfl
  subst hk
  unfold CallV.agg at HMU ⊢
  simp only at HMU ⊢
  have hA := (Below.refl w.heap.size w).alloc (Nat.le_refl _) (.cells #[.int .i64 1, .string name, .bool told, .slice na nn nc, .int .i64 beg, .int .i64 fin] 32)
  have HA := Lib.hid hA
  obtain ⟨wa, hwa⟩ : ∃ z : World, z = w.alloc (.cells #[.int .i64 1, .string name, .bool told, .slice na nn nc, .int .i64 beg, .int .i64 fin] 32) := ⟨_, rfl⟩
  rw [← hwa] at hA HA
  have hO : Own wa w.heap.size [.int .i64 1, .string name, .bool told, .slice na nn nc, .int .i64 beg, .int .i64 fin] := by rw [hwa]; exact Own.new_at w _ _ _ rfl
  have hsz : w.heap.size < wa.heap.size := by rw [hwa]; simp
  have hoa := ho.below hA (by omega)
  have h1 := hoa.1 1 _ rfl
  have hmb : mb < wa.heap.size := by omega
  have hmw : Mp wa mm n D := hm.below hA
  have k1 : Hid (∀ W, Below wa.heap.size wa W → W.cell? ⟨mb, 1, none⟩ = some (.map (some mm))) := Lib.hid (fun W hW => (hW.cell (p := ⟨mb, 1, none⟩) hmb).trans h1)
  have k2 : Hid (∀ W, Below wa.heap.size wa W → W.cell? ⟨w.heap.size, 1, none⟩ = some (.string name)) := Lib.hid (fun W hW => (hW.cell (p := ⟨w.heap.size, 1, none⟩) hsz).trans (hO.1 1 _ rfl))
  have HLK : Hid (∀ W, Below wa.heap.size wa W → (Instr.lookup 67 (.map (some mm)) (.string name) true).run Tryd.prog W = .ok (.tuple #[.int .i64 (atN D name), .bool (Maps.has D (keyL name))]) W) := Lib.hid (fun W hW => (hmw.below hW).look hs)
  have k0 := hO.1 0 _ rfl
  have HO := Lib.hid (fun (W : World) (hW : Below wa.heap.size wa W) => hO.below hW hsz)
  have HOA := Lib.hid (fun (W : World) (hW : Below wa.heap.size wa W) => hoa.below hW hmb)
  have HRW := Lib.hid (fun (W : World) (hW : Below wa.heap.size wa W) => (hr.below hA).below hW)
  have HMW := Lib.hid (fun (W : World) (hW : Below wa.heap.size wa W) => hmw.below hW)
  have hhas := hh name hs
  have HHH := Lib.hid hh
  have HR := Lib.hid hr
  have HTD := Lib.hid (World.ownsMap.tidy hm law)
  have HKL := Lib.hid (keyL_of hs)
  clear hO h1 ho hr hm hA hmw hoa hh
  obtain ⟨va, vc, rfl, hvc⟩ := (HRW.out wa (Below.refl _ _)).form
  generalize atN D name = x0 at *
  obtain ⟨hs0, hhs0⟩ : ∃ b, Maps.has D (keyL name) = b := ⟨_, rfl⟩
  rw [hhs0] at HLK hhas
  have HHAS := Lib.hid hhas
  clear hhs0 hhas
  go_enter Tryd.func34, Tryd.ntmps34
  go_upto_region 1 with (fail)
  rw [← hwa]
  clear hwa
  refine Mono.region_below (by kernel_rfl) (by kernel_rfl) (by kernel_rfl) ?_
  refine Mono.rgl_val (v := ?va0) rfl Mono.rr (fun ρ a W hR hd hf => ?ha0) ?_
  case ha0 =>
    have e0 := Mono.init_get hf (t := 0) (by kernel_rfl)
    clear hd hf
    (go_simp; try with_reducible rfl)
  refine Mono.rgl_val (v := ?va1) rfl Mono.rr (fun ρ a W hR hd hf => ?ha1) ?_
  case ha1 =>
    have e8 := Mono.dep_val hd hf (t := 8) (k := 0) (by kernel_rfl) rfl
    clear hd hf
    (go_simp; try with_reducible rfl)
  refine Mono.rgl_val (v := ?va2) rfl Mono.rr (fun ρ a W hR hd hf => ?ha2) ?_
  case ha2 =>
    have e9 := Mono.dep_val hd hf (t := 9) (k := 1) (by kernel_rfl) rfl
    clear hd hf
    (go_simp; try with_reducible rfl)
  refine Mono.rgl_val (v := ?va3) rfl Mono.rr (fun ρ a W hR hd hf => ?ha3) ?_
  case ha3 =>
    have e10 := Mono.dep_val hd hf (t := 10) (k := 2) (by kernel_rfl) rfl
    have hk := k1.out W hR
    clear hd hf
    (go_simp; try with_reducible rfl)
  refine Mono.rgl_val (v := ?va4) rfl Mono.rr (fun ρ a W hR hd hf => ?ha4) ?_
  case ha4 =>
    have e3 := Mono.init_get hf (t := 3) (by kernel_rfl)
    clear hd hf
    (go_simp; try with_reducible rfl)
  refine Mono.rgl_val (v := ?va5) rfl Mono.rr (fun ρ a W hR hd hf => ?ha5) ?_
  case ha5 =>
    have e12 := Mono.dep_val hd hf (t := 12) (k := 4) (by kernel_rfl) rfl
    have hk := k2.out W hR
    clear hd hf
    (go_simp; try with_reducible rfl)
  refine Mono.rgl_val (v := ?va6) rfl Mono.rr (fun ρ a W hR hd hf => ?ha6) ?_
  case ha6 =>
    have e11 := Mono.dep_val hd hf (t := 11) (k := 3) (by kernel_rfl) rfl
    have e13 := Mono.dep_val hd hf (t := 13) (k := 5) (by kernel_rfl) rfl
    have hk := HLK.out W hR
    clear hd hf
    (go_simp; try with_reducible rfl)
  refine Mono.rgl_val (v := ?va7) rfl Mono.rr (fun ρ a W hR hd hf => ?ha7) ?_
  case ha7 =>
    have e14 := Mono.dep_val hd hf (t := 14) (k := 6) (by kernel_rfl) rfl
    clear hd hf
    (go_simp; try with_reducible rfl)
  refine Mono.rgl_val (v := ?va8) rfl Mono.rr (fun ρ a W hR hd hf => ?ha8) ?_
  case ha8 =>
    have e7 := Mono.dep_val hd hf (t := 7) (k := 7) (by kernel_rfl) rfl
    clear hd hf
    (go_simp; try with_reducible rfl)
  refine Mono.rgl_val (v := ?va9) rfl Mono.rr (fun ρ a W hR hd hf => ?ha9) ?_
  case ha9 =>
    have e7 := Mono.dep_val hd hf (t := 7) (k := 7) (by kernel_rfl) rfl
    clear hd hf
    (go_simp; try with_reducible rfl)
  refine Mono.rgl_val (v := ?va10) rfl Mono.rr (fun ρ a W hR hd hf => ?ha10) ?_
  case ha10 =>
    have e15 := Mono.dep_val hd hf (t := 15) (k := 8) (by kernel_rfl) rfl
    clear hd hf
    (go_simp; try with_reducible rfl)
  refine Mono.rgl_val (v := ?va11) rfl Mono.rr (fun ρ a W hR hd hf => ?ha11) ?_
  case ha11 =>
    have e16 := Mono.dep_val hd hf (t := 16) (k := 9) (by kernel_rfl) rfl
    clear hd hf
    (go_simp; try with_reducible rfl)
  refine Mono.rgl_done rfl (fun ρ W hR ht => ?_)
  obtain ⟨da11, da10, da9, da8, da7, da6, da5, da4, da3, da2, da1, da0, _⟩ := ht
  simp only [List.length_cons, List.length_nil, Nat.reduceAdd] at da0 da1 da2 da3 da4 da5 da6 da7 da8 da9 da10 da11
  simp only [Mono.putAll, Nat.reduceAdd, da0, da1, da2, da3, da4, da5, da6, da7, da8, da9, da10, da11, Act.put, List.setIfInBounds_toArray, List.set_cons_zero, List.set_cons_succ]
  clear da0 da1 da2 da3 da4 da5 da6 da7 da8 da9 da10 da11

  have HB := Lib.hid (HA.out.trans (hR.mono HA.out.size))
  have HO2 := Lib.hid (HO.out W hR)
  have HOA2 := Lib.hid (HOA.out W hR)
  have HRW2 := Lib.hid (HRW.out W hR)
  have HMW2 := Lib.hid (HMW.out W hR)
  have hzW : wa.heap.size ≤ W.heap.size := hR.size
  have k0' := HO2.out.1 0 _ rfl
  clear hR k1 k2 HLK HO HOA HRW HMW k0
  cases hs0 with
  | true =>
    have c0 := HO2.out.1 0 _ rfl
    have c1 := HO2.out.1 1 _ rfl
    have c2 := HO2.out.1 2 _ rfl
    have c3 := HO2.out.1 3 _ rfl
    have c4 := HO2.out.1 4 _ rfl
    have c5 := HO2.out.1 5 _ rfl
    go_wp2_with (fail)
    refine (HMU.out _).mono ?_
    rintro e w3 ⟨rfl, hb3⟩
    have HMA := Lib.hid (HH.out.below (HB.out.trans (hb3.mono HB.out.size)))
    have HBF : Hid (Below mm w _ ∧ FrD mb mm base w _) := Lib.hid ⟨(HB.out.trans (hb3.mono HB.out.size)).mono (show mm ≤ w.heap.size by omega), FrD.of_below (HB.out.trans (hb3.mono HB.out.size))⟩
    have c2' := (hb3.cell (p := ⟨w.heap.size, 2, none⟩) (show w.heap.size < W.heap.size by omega)).trans c2
    clear hb3
    by_cases hf : 0 ≤ fin
    · have d1 : decide (0 ≤ fin) = true := decide_eq_true hf
      have d2 : decide (fin < 0) = false := decide_eq_false (by omega)
      rw [d1]
      go_wp2_with (fail)
      go_ret
      exact Do_p.mk (l' := l) (by rw [HTE.out, ← HHAS.out]; simp [d1] <;> (cases told <;> rfl)) HMA.out HBF.out
    · have d1 : decide (0 ≤ fin) = false := decide_eq_false hf
      rw [d1]
      go_wp2_with (fail)
      go_ret
      exact Do_p.mk (l' := l) (by rw [HTE.out, ← HHAS.out]; simp [d1]) HMA.out HBF.out
  | false =>
    have hwf : (Lit.int .i64 (l.length : Int)).wf = true := WalkArith.wf_i64 (by omega)
    obtain ⟨w2, hrun, hm2, hg2⟩ := World.ownsMap.update (w := W.drew) (val := .int .i64 (l.length : Int)) (World.ownsMap.drew HMW2.out) law Tryd.underlying67 (by unfold maxLen; omega) HKL.out (plainElem_int Tryd.underlying3 hwf)
    have hbd : Below W.heap.size W W.drew := (Below.refl _ W).drew
    have HG2 := Lib.hid hg2
    have HM2 := Lib.hid hm2
    have HO3 : Hid (Own w2 w.heap.size [.int .i64 1, .string name, .bool told, .slice na nn nc, .int .i64 beg, .int .i64 fin]) := Lib.hid ((HO2.out.below hbd (by omega)).grown hg2 (by simp; omega) (show w.heap.size < W.heap.size by omega))
    have HOA3 : Hid (Own w2 mb [.slice va l.length vc, .map (some mm)]) := Lib.hid ((HOA2.out.below hbd (by omega)).grown hg2 (by simp; omega) (show mb < W.heap.size by omega))
    have HRW3 : Hid (Row base 9 1 w2 (.slice va l.length vc) l.length (scells l)) := Lib.hid ((HRW2.out.below hbd).kept_lt hg2 (by omega))
    have hz2 : W.heap.size ≤ w2.heap.size := hg2.size
    have HB2 : Hid (Below mm w w2) := Lib.hid ((HB.out.mono (show mm ≤ w.heap.size by omega)).trans ((hbd.mono (show mm ≤ W.heap.size by omega)).trans ((Below.refl mm _).grown hg2 (show mm ≤ W.drew.heap.size from by show mm ≤ W.heap.size; omega) (fun k hk => by cases hk; exact Nat.le_refl _))))
    have HNM : Hid (some mm ≠ (Value.slice va l.length vc).ownBlock) := Lib.hid (row_block_ne HRW3.out (.inl (by omega)))
    have p1 := HOA2.out.1 1 _ rfl
    have p2 := HO2.out.1 1 _ rfl
    have p3 := HOA2.out.1 0 _ rfl
    have r1 := HOA3.out.1 0 _ rfl
    have r2 := HO3.out.1 1 _ rfl
    have r3 := HOA3.out.1 1 _ rfl
    clear hg2 hm2 hbd hwf
    go_wp2_with (fail)
    go_region_held3 (fun w' => w'.cell? ⟨mb, 1, none⟩ = some (.map (some mm)) ∧ w'.cell? ⟨w.heap.size, 1, none⟩ = some (.string name) ∧ w'.cell? ⟨mb, 0, none⟩ = some (.slice va l.length vc))
      (first
        | go_keep)
      (first
        | fail)
    have hX : Below w2.heap.size w2 (w2.drew.alloc (.cells #[.string name] 9)) := ((Below.refl _ w2).drew).alloc (Nat.le_refl _) _
    have HX := Lib.hid hX
    have HRX := Lib.hid (HRW3.out.below hX)
    have HOX := Lib.hid (HO3.out.below hX (by omega))
    have HOAX := Lib.hid (HOA3.out.below hX (by omega))
    have HMX := Lib.hid (World.ownsMap.alloc (World.ownsMap.drew HM2.out) (.cells #[.string name] 9))
    have HZX : Hid (base ≤ (w2.drew.alloc (.cells #[.string name] 9)).heap.size) := Lib.hid (by have := hX.size; omega)
    have hzX : w.heap.size < (w2.drew.alloc (.cells #[.string name] 9)).heap.size := by have := hX.size; omega
    have HZL := Lib.hid hzX
    have hmb2 : mb < w2.heap.size := by omega
    have hbx2 : w.heap.size < w2.heap.size := by omega
    clear hX hzX p1 p2 p3
    go_wp2_with (fail)
    go_region_law (first
      | (refine step_append_row Tryd.underlying30 info_str rfl (by decide) rfl (.tmp 38) (.tmp 41) rfl rfl HRX.out rfl (Sl.new w2.drew 1 1 [.string name] 9 rfl) (by intro u hu; simp at hu; subst hu; rfl) (by omega) (by omega) HZX.out ?_
         intro v42 w42 hr42 hb42 hg42
         obtain ⟨a42, c42, hv42, _⟩ := hr42.form
         subst hv42
         have HR42 := Lib.hid hr42
         have HB42 := Lib.hid hb42
         have HG42 := Lib.hid hg42
         have HZ42 : Hid ((w2.drew.alloc (.cells #[.string name] 9)).heap.size ≤ w42.heap.size) := Lib.hid hb42.size
         have oA := HOAX.out.below hb42 (by omega)
         have s1 := oA.1 0 _ rfl
         have s2 := oA.2 0
         have HOA42 := Lib.hid oA
         clear hr42 hb42 hg42 oA))
    all_goals
      have HBX := Lib.hid (fun (B : Nat) (hB : B ≤ base) => HB42.out.mono hB)
      have hbx : mb < w42.heap.size := by have := HZX.out; have := HZ42.out; omega
      have HO42 := Lib.hid (HOX.out.grown HG42.out (row_block_ne HR.out (.inr (Nat.le_refl _))) HZL.out)
      have HM42 := Lib.hid (World.ownsMap.kept HMX.out HG42.out HNM.out)
      have HO5 := Lib.hid (HO42.out.other (show mb ≠ w.heap.size by omega) 0 (.slice a42 (l.length + 1) c42))
      have HOA5 := Lib.hid (HOA42.out.set 0 (.slice a42 (l.length + 1) c42) (by simp))
      have HM5 := Lib.hid (World.ownsMap.setCell HM42.out (a := ⟨mb, 0, none⟩) (show mm ≠ mb by omega) (.slice a42 (l.length + 1) c42))
      have HR5 := Lib.hid (HR42.out.other lt2 0 (.slice a42 (l.length + 1) c42))
      have hsz5 : (w42.setCell ⟨mb, 0, none⟩ (.slice a42 (l.length + 1) c42)).heap.size = w42.heap.size := by simp
      have HMA5 : Hid (ModelAt (w42.setCell ⟨mb, 0, none⟩ (.slice a42 (l.length + 1) c42)) mb mm base (l ++ [name])) := Lib.hid ⟨lt1, lt2, by rw [hsz5]; have := HZX.out; have := HZ42.out; omega, .slice a42 (l.length + 1) c42, _, n + 1, HOA5.out, by rw [List.length_append, scells_app]; exact HR5.out, HM5.out, by rw [List.length_append]; simp; omega, has_put HTD.out.isMap HHH.out⟩
      have HB5 : Hid (Below mm w (w42.setCell ⟨mb, 0, none⟩ (.slice a42 (l.length + 1) c42))) := Lib.hid (((HB2.out.trans (HX.out.mono (by omega))).trans (HB42.out.mono (show mm ≤ base by omega))).setCell (show mm ≤ mb by omega) _)
      have HFR5 : Hid (FrD mb mm base w (w42.setCell ⟨mb, 0, none⟩ (.slice a42 (l.length + 1) c42))) := Lib.hid ((((FrD.of_below (HB.out.drew)).trans (FrD.of_mm HG2.out)).trans (FrD.of_below HX.out)).trans (FrD.of_row HRX.out HG42.out) |>.trans (FrD.setMb _ _ _ _ _ _))
      have c0 := HO5.out.1 0 _ rfl
      have c1 := HO5.out.1 1 _ rfl
      have c2 := HO5.out.1 2 _ rfl
      have c3 := HO5.out.1 3 _ rfl
      have c4 := HO5.out.1 4 _ rfl
      have c5 := HO5.out.1 5 _ rfl
      have hlt5 : w.heap.size < (w42.setCell ⟨mb, 0, none⟩ (.slice a42 (l.length + 1) c42)).heap.size := by rw [hsz5]; have := HZ42.out; have := HZL.out; omega
      have hmm5 : mm ≤ (w42.setCell ⟨mb, 0, none⟩ (.slice a42 (l.length + 1) c42)).heap.size := by rw [hsz5]; omega
      clear s1 s2 r1 r2 r3 hsz5
      generalize w42.setCell ⟨mb, 0, none⟩ (.slice a42 (l.length + 1) c42) = w5 at *
      go_wp2_with (fail)
      refine (HMU.out _).mono ?_
      rintro e w6 ⟨rfl, hb6⟩
      have HMA := Lib.hid (HMA5.out.below hb6)
      have HBF : Hid (Below mm w _ ∧ FrD mb mm base w _) := Lib.hid ⟨HB5.out.trans (hb6.mono hmm5), HFR5.out.trans (FrD.of_below hb6)⟩
      have c2' := (hb6.cell (p := ⟨w.heap.size, 2, none⟩) hlt5).trans c2
      clear hb6
      by_cases hf : 0 ≤ fin
      · have d1 : decide (0 ≤ fin) = true := decide_eq_true hf
        have d2 : decide (fin < 0) = false := decide_eq_false (by omega)
        rw [d1]
        go_wp2_with (fail)
        go_ret
        exact Do_p.mk (l' := l ++ [name]) (by rw [HTE.out, ← HHAS.out]; simp [d2] <;> (cases told <;> rfl)) HMA.out HBF.out
      · have d1 : decide (0 ≤ fin) = false := decide_eq_false hf
        have d2 : decide (fin < 0) = true := decide_eq_true (by omega)
        rw [d1]
        go_wp2_with (fail)
        go_ret
        exact Do_p.mk (l' := l ++ [name]) (by rw [HTE.out, ← HHAS.out]; simp [d2]) HMA.out HBF.out
set_option maxHeartbeats 8000000 in
theorem do_list (mb mm base : Nat) (l ns : List ByteArray) (c : CallV) (w : World) (h : ModelAt w mb mm base l) (hl : l.length ≤ 1000) (hs : c.name.size ≤ maxLen) (hns : ns.length = c.nn) (B : Nat) (hB : B ≤ w.heap.size) (hS : Sl w B 1 (.slice c.na c.nn c.nc) c.nn (scells ns)) (hn1 : ns.length ≤ 1000) (hk : c.kind = 3) :
    Calls Tryd.prog 34 #[.pointer (some ⟨mb, 0, none⟩), c.agg] w (Do_p l c ns mb mm base w) := by
  have HH := Lib.hid h
  obtain ⟨lt1, lt2, lt3, v, D, n, ho, hr, hm, hn, hh⟩ := h
  obtain ⟨kind, name, told, na, nn, nc, beg, fin⟩ := c
  simp only at hs hk hns hS ⊢
  have HTE : Hid (tells l ⟨kind, name, told, na, nn, nc, beg, fin⟩ ns = if kind = 1 then (if hasL l name then (l, decide (0 ≤ fin) && !told) else (l ++ [name], decide (fin < 0) || told)) else if kind = 2 then (l, told == hasL l name) else if kind = 3 then (l, decide (l = ns)) else (l, false)) := rfl
  subst hk
  unfold CallV.agg
  simp only
  have hA := (Below.refl w.heap.size w).alloc (Nat.le_refl _) (.cells #[.int .i64 3, .string name, .bool told, .slice na nn nc, .int .i64 beg, .int .i64 fin] 32)
  have HA := Lib.hid hA
  obtain ⟨wa, hwa⟩ : ∃ z : World, z = w.alloc (.cells #[.int .i64 3, .string name, .bool told, .slice na nn nc, .int .i64 beg, .int .i64 fin] 32) := ⟨_, rfl⟩
  rw [← hwa] at hA HA
  have hO : Own wa w.heap.size [.int .i64 3, .string name, .bool told, .slice na nn nc, .int .i64 beg, .int .i64 fin] := by rw [hwa]; exact Own.new_at w _ _ _ rfl
  have hsz : w.heap.size < wa.heap.size := by rw [hwa]; simp
  have hoa := ho.below hA (by omega)
  have h1 := hoa.1 1 _ rfl
  have hmb : mb < wa.heap.size := by omega
  have hmw : Mp wa mm n D := hm.below hA
  have k1 : Hid (∀ W, Below wa.heap.size wa W → W.cell? ⟨mb, 1, none⟩ = some (.map (some mm))) := Lib.hid (fun W hW => (hW.cell (p := ⟨mb, 1, none⟩) hmb).trans h1)
  have k2 : Hid (∀ W, Below wa.heap.size wa W → W.cell? ⟨w.heap.size, 1, none⟩ = some (.string name)) := Lib.hid (fun W hW => (hW.cell (p := ⟨w.heap.size, 1, none⟩) hsz).trans (hO.1 1 _ rfl))
  have HLK : Hid (∀ W, Below wa.heap.size wa W → (Instr.lookup 67 (.map (some mm)) (.string name) true).run Tryd.prog W = .ok (.tuple #[.int .i64 (atN D name), .bool (Maps.has D (keyL name))]) W) := Lib.hid (fun W hW => (hmw.below hW).look hs)
  have k0 := hO.1 0 _ rfl
  have HO := Lib.hid (fun (W : World) (hW : Below wa.heap.size wa W) => hO.below hW hsz)
  have HOA := Lib.hid (fun (W : World) (hW : Below wa.heap.size wa W) => hoa.below hW hmb)
  have HRW := Lib.hid (fun (W : World) (hW : Below wa.heap.size wa W) => (hr.below hA).below hW)
  have HMW := Lib.hid (fun (W : World) (hW : Below wa.heap.size wa W) => hmw.below hW)
  have hhas := hh name hs
  have HHH := Lib.hid hh
  have HR := Lib.hid hr
  have HTD := Lib.hid (World.ownsMap.tidy hm law)
  have HKL := Lib.hid (keyL_of hs)
  have HEQ : Hid (∀ W, Below w.heap.size w W → Row base 9 1 W v l.length (scells l) → Calls Tryd.prog 46 #[.slice na nn nc, v] W fun e w' => e = .returned (.bool (decide (ns = l))) ∧ Below W.heap.size W w') := Lib.hid (fun W hW hrw => equal_any ns l (.slice na nn nc) v W.heap.size W (by rw [hns]; exact (hS.below (hW.mono hB)).mono (Nat.le_trans hB hW.size)) hrw.sl (Nat.le_refl _) (by omega) (by omega))
  clear hO h1 ho hr hm hA hmw hoa hh
  obtain ⟨va, vc, rfl, hvc⟩ := (HRW.out wa (Below.refl _ _)).form
  generalize atN D name = x0 at *
  obtain ⟨hs0, hhs0⟩ : ∃ b, Maps.has D (keyL name) = b := ⟨_, rfl⟩
  rw [hhs0] at HLK hhas
  have HHAS := Lib.hid hhas
  clear hhs0 hhas
  go_enter Tryd.func34, Tryd.ntmps34
  go_upto_region 1 with (fail)
  rw [← hwa]
  clear hwa
  refine Mono.region_below (by kernel_rfl) (by kernel_rfl) (by kernel_rfl) ?_
  refine Mono.rgl_val (v := ?vd0) rfl Mono.rr (fun ρ a W hR hd hf => ?hd0) ?_
  case hd0 =>
    have e0 := Mono.init_get hf (t := 0) (by kernel_rfl)
    clear hd hf
    (go_simp; try with_reducible rfl)
  refine Mono.rgl_val (v := ?vd1) rfl Mono.rr (fun ρ a W hR hd hf => ?hd1) ?_
  case hd1 =>
    have e8 := Mono.dep_val hd hf (t := 8) (k := 0) (by kernel_rfl) rfl
    clear hd hf
    (go_simp; try with_reducible rfl)
  refine Mono.rgl_val (v := ?vd2) rfl Mono.rr (fun ρ a W hR hd hf => ?hd2) ?_
  case hd2 =>
    have e9 := Mono.dep_val hd hf (t := 9) (k := 1) (by kernel_rfl) rfl
    clear hd hf
    (go_simp; try with_reducible rfl)
  refine Mono.rgl_val (v := ?vd3) rfl Mono.rr (fun ρ a W hR hd hf => ?hd3) ?_
  case hd3 =>
    have e10 := Mono.dep_val hd hf (t := 10) (k := 2) (by kernel_rfl) rfl
    have hk := k1.out W hR
    clear hd hf
    (go_simp; try with_reducible rfl)
  refine Mono.rgl_val (v := ?vd4) rfl Mono.rr (fun ρ a W hR hd hf => ?hd4) ?_
  case hd4 =>
    have e3 := Mono.init_get hf (t := 3) (by kernel_rfl)
    clear hd hf
    (go_simp; try with_reducible rfl)
  refine Mono.rgl_val (v := ?vd5) rfl Mono.rr (fun ρ a W hR hd hf => ?hd5) ?_
  case hd5 =>
    have e12 := Mono.dep_val hd hf (t := 12) (k := 4) (by kernel_rfl) rfl
    have hk := k2.out W hR
    clear hd hf
    (go_simp; try with_reducible rfl)
  refine Mono.rgl_val (v := ?vd6) rfl Mono.rr (fun ρ a W hR hd hf => ?hd6) ?_
  case hd6 =>
    have e11 := Mono.dep_val hd hf (t := 11) (k := 3) (by kernel_rfl) rfl
    have e13 := Mono.dep_val hd hf (t := 13) (k := 5) (by kernel_rfl) rfl
    have hk := HLK.out W hR
    clear hd hf
    (go_simp; try with_reducible rfl)
  refine Mono.rgl_val (v := ?vd7) rfl Mono.rr (fun ρ a W hR hd hf => ?hd7) ?_
  case hd7 =>
    have e14 := Mono.dep_val hd hf (t := 14) (k := 6) (by kernel_rfl) rfl
    clear hd hf
    (go_simp; try with_reducible rfl)
  refine Mono.rgl_val (v := ?vd8) rfl Mono.rr (fun ρ a W hR hd hf => ?hd8) ?_
  case hd8 =>
    have e7 := Mono.dep_val hd hf (t := 7) (k := 7) (by kernel_rfl) rfl
    clear hd hf
    (go_simp; try with_reducible rfl)
  refine Mono.rgl_val (v := ?vd9) rfl Mono.rr (fun ρ a W hR hd hf => ?hd9) ?_
  case hd9 =>
    have e7 := Mono.dep_val hd hf (t := 7) (k := 7) (by kernel_rfl) rfl
    clear hd hf
    (go_simp; try with_reducible rfl)
  refine Mono.rgl_val (v := ?vd10) rfl Mono.rr (fun ρ a W hR hd hf => ?hd10) ?_
  case hd10 =>
    have e15 := Mono.dep_val hd hf (t := 15) (k := 8) (by kernel_rfl) rfl
    clear hd hf
    (go_simp; try with_reducible rfl)
  refine Mono.rgl_val (v := ?vd11) rfl Mono.rr (fun ρ a W hR hd hf => ?hd11) ?_
  case hd11 =>
    have e16 := Mono.dep_val hd hf (t := 16) (k := 9) (by kernel_rfl) rfl
    clear hd hf
    (go_simp; try with_reducible rfl)
  refine Mono.rgl_done rfl (fun ρ W hR ht => ?_)
  obtain ⟨dd11, dd10, dd9, dd8, dd7, dd6, dd5, dd4, dd3, dd2, dd1, dd0, _⟩ := ht
  simp only [List.length_cons, List.length_nil, Nat.reduceAdd] at dd0 dd1 dd2 dd3 dd4 dd5 dd6 dd7 dd8 dd9 dd10 dd11
  simp only [Mono.putAll, Nat.reduceAdd, dd0, dd1, dd2, dd3, dd4, dd5, dd6, dd7, dd8, dd9, dd10, dd11, Act.put, List.setIfInBounds_toArray, List.set_cons_zero, List.set_cons_succ]
  clear dd0 dd1 dd2 dd3 dd4 dd5 dd6 dd7 dd8 dd9 dd10 dd11

  have HB := Lib.hid (HA.out.trans (hR.mono HA.out.size))
  have HO2 := Lib.hid (HO.out W hR)
  have HOA2 := Lib.hid (HOA.out W hR)
  have HRW2 := Lib.hid (HRW.out W hR)
  have HMW2 := Lib.hid (HMW.out W hR)
  have hzW : wa.heap.size ≤ W.heap.size := hR.size
  have k0' := HO2.out.1 0 _ rfl
  clear hR k1 k2 HLK HO HOA HRW HMW k0
  obtain ⟨wo, rfl⟩ : ∃ z : World, z = W := ⟨_, rfl⟩
  go_upto_region 13 with (fail)
  refine Mono.region_below (by kernel_rfl) (by kernel_rfl) (by kernel_rfl) ?_
  refine Mono.rgl_val (v := ?ve0) rfl Mono.rr (fun ρ a W hR hd hf => ?he0) ?_
  case he0 =>
    have e3 := Mono.init_get hf (t := 3) (by kernel_rfl)
    clear hd hf
    (go_simp; try with_reducible rfl)
  refine Mono.rgl_val (v := ?ve1) rfl Mono.rr (fun ρ a W hR hd hf => ?he1) ?_
  case he1 =>
    have e63 := Mono.dep_val hd hf (t := 63) (k := 0) (by kernel_rfl) rfl
    have hk := (HO2.out.below hR (by omega)).1 3 _ rfl
    clear hd hf
    (go_simp; try with_reducible rfl)
  refine Mono.rgl_val (v := ?ve2) rfl Mono.rr (fun ρ a W hR hd hf => ?he2) ?_
  case he2 =>
    have e0 := Mono.init_get hf (t := 0) (by kernel_rfl)
    clear hd hf
    (go_simp; try with_reducible rfl)
  refine Mono.rgl_val (v := ?ve3) rfl Mono.rr (fun ρ a W hR hd hf => ?he3) ?_
  case he3 =>
    have e65 := Mono.dep_val hd hf (t := 65) (k := 2) (by kernel_rfl) rfl
    clear hd hf
    (go_simp; try with_reducible rfl)
  refine Mono.rgl_val (v := ?ve4) rfl Mono.rr (fun ρ a W hR hd hf => ?he4) ?_
  case he4 =>
    have e66 := Mono.dep_val hd hf (t := 66) (k := 3) (by kernel_rfl) rfl
    clear hd hf
    (go_simp; try with_reducible rfl)
  refine Mono.rgl_val (v := ?ve5) rfl Mono.rr (fun ρ a W hR hd hf => ?he5) ?_
  case he5 =>
    have e67 := Mono.dep_val hd hf (t := 67) (k := 4) (by kernel_rfl) rfl
    have hk := (HOA2.out.below hR (by omega)).1 0 _ rfl
    clear hd hf
    (go_simp; try with_reducible rfl)
  refine Mono.rgl_call (fun x _ => x = .bool (decide (ns = l))) rfl Mono.rr (fun _ _ _ h _ => h) (fun ρ a W hR hd hf => ?he6) ?_
  case he6 =>
    have e64 := Mono.dep_val hd hf (t := 64) (k := 1) (by kernel_rfl) rfl
    have e68 := Mono.dep_val hd hf (t := 68) (k := 5) (by kernel_rfl) rfl
    clear hd hf
    refine ⟨_, _, by go_simp; first | rfl | exact ⟨rfl, rfl⟩, ?_⟩
    exact (HEQ.out W (HB.out.trans (hR.mono HB.out.size)) (HRW2.out.below hR)).mono (by rintro e w' ⟨rfl, hb⟩; exact ⟨_, rfl, hb, rfl⟩)
  refine Mono.rgl_val (v := ?ve7) rfl Mono.rr (fun ρ a W hR hd hf => ?he7) ?_
  case he7 =>
    have e69 := Mono.dep_val hd hf (t := 69) (k := 6) (by kernel_rfl) rfl
    clear hd hf
    (go_simp; try with_reducible rfl)
  refine Mono.rgl_done rfl (fun ρ W hR ht => ?_)
  obtain ⟨de7, de6, de5, de4, de3, de2, de1, de0, _⟩ := ht
  simp only [List.length_cons, List.length_nil, Nat.reduceAdd] at de0 de1 de2 de3 de4 de5 de6 de7
  simp only [Mono.putAll, Nat.reduceAdd, de0, de1, de2, de3, de4, de5, de6, de7, Act.put, List.setIfInBounds_toArray, List.set_cons_zero, List.set_cons_succ]
  clear de0 de1 de2 de3 de4 de5 de6 de7

  have HMA := Lib.hid (HH.out.below (HB.out.trans (hR.mono HB.out.size)))
  have HBF : Hid (Below mm w _ ∧ FrD mb mm base w _) := Lib.hid ⟨(HB.out.trans (hR.mono HB.out.size)).mono (show mm ≤ w.heap.size by omega), FrD.of_below (HB.out.trans (hR.mono HB.out.size))⟩
  clear hR
  go_wp2_with (fail)
  go_ret
  exact Do_p.mk (l' := l) (by rw [HTE.out]; simp; exact eq_comm) HMA.out HBF.out
set_option maxHeartbeats 8000000 in
theorem do_none (mb mm base : Nat) (l ns : List ByteArray) (c : CallV) (w : World) (h : ModelAt w mb mm base l) (hl : l.length ≤ 1000) (hs : c.name.size ≤ maxLen) (hk : c.kind ≠ 1 ∧ c.kind ≠ 2 ∧ c.kind ≠ 3) :
    Calls Tryd.prog 34 #[.pointer (some ⟨mb, 0, none⟩), c.agg] w (Do_p l c ns mb mm base w) := by
  have HH := Lib.hid h
  obtain ⟨lt1, lt2, lt3, v, D, n, ho, hr, hm, hn, hh⟩ := h
  obtain ⟨kind, name, told, na, nn, nc, beg, fin⟩ := c
  simp only at hs hk ⊢
  have HTE : Hid (tells l ⟨kind, name, told, na, nn, nc, beg, fin⟩ ns = if kind = 1 then (if hasL l name then (l, decide (0 ≤ fin) && !told) else (l ++ [name], decide (fin < 0) || told)) else if kind = 2 then (l, told == hasL l name) else if kind = 3 then (l, decide (l = ns)) else (l, false)) := rfl
  unfold CallV.agg
  simp only
  have hA := (Below.refl w.heap.size w).alloc (Nat.le_refl _) (.cells #[.int .i64 kind, .string name, .bool told, .slice na nn nc, .int .i64 beg, .int .i64 fin] 32)
  have HA := Lib.hid hA
  obtain ⟨wa, hwa⟩ : ∃ z : World, z = w.alloc (.cells #[.int .i64 kind, .string name, .bool told, .slice na nn nc, .int .i64 beg, .int .i64 fin] 32) := ⟨_, rfl⟩
  rw [← hwa] at hA HA
  have hO : Own wa w.heap.size [.int .i64 kind, .string name, .bool told, .slice na nn nc, .int .i64 beg, .int .i64 fin] := by rw [hwa]; exact Own.new_at w _ _ _ rfl
  have hsz : w.heap.size < wa.heap.size := by rw [hwa]; simp
  have hoa := ho.below hA (by omega)
  have h1 := hoa.1 1 _ rfl
  have hmb : mb < wa.heap.size := by omega
  have hmw : Mp wa mm n D := hm.below hA
  have k1 : Hid (∀ W, Below wa.heap.size wa W → W.cell? ⟨mb, 1, none⟩ = some (.map (some mm))) := Lib.hid (fun W hW => (hW.cell (p := ⟨mb, 1, none⟩) hmb).trans h1)
  have k2 : Hid (∀ W, Below wa.heap.size wa W → W.cell? ⟨w.heap.size, 1, none⟩ = some (.string name)) := Lib.hid (fun W hW => (hW.cell (p := ⟨w.heap.size, 1, none⟩) hsz).trans (hO.1 1 _ rfl))
  have HLK : Hid (∀ W, Below wa.heap.size wa W → (Instr.lookup 67 (.map (some mm)) (.string name) true).run Tryd.prog W = .ok (.tuple #[.int .i64 (atN D name), .bool (Maps.has D (keyL name))]) W) := Lib.hid (fun W hW => (hmw.below hW).look hs)
  have k0 := hO.1 0 _ rfl
  have HO := Lib.hid (fun (W : World) (hW : Below wa.heap.size wa W) => hO.below hW hsz)
  have HOA := Lib.hid (fun (W : World) (hW : Below wa.heap.size wa W) => hoa.below hW hmb)
  have HRW := Lib.hid (fun (W : World) (hW : Below wa.heap.size wa W) => (hr.below hA).below hW)
  have HMW := Lib.hid (fun (W : World) (hW : Below wa.heap.size wa W) => hmw.below hW)
  have hhas := hh name hs
  have HHH := Lib.hid hh
  have HR := Lib.hid hr
  have HTD := Lib.hid (World.ownsMap.tidy hm law)
  have HKL := Lib.hid (keyL_of hs)
  clear hO h1 ho hr hm hA hmw hoa hh
  obtain ⟨va, vc, rfl, hvc⟩ := (HRW.out wa (Below.refl _ _)).form
  generalize atN D name = x0 at *
  obtain ⟨hs0, hhs0⟩ : ∃ b, Maps.has D (keyL name) = b := ⟨_, rfl⟩
  rw [hhs0] at HLK hhas
  have HHAS := Lib.hid hhas
  clear hhs0 hhas
  go_enter Tryd.func34, Tryd.ntmps34
  go_upto_region 1 with (fail)
  rw [← hwa]
  clear hwa
  refine Mono.region_below (by kernel_rfl) (by kernel_rfl) (by kernel_rfl) ?_
  refine Mono.rgl_val (v := ?vf0) rfl Mono.rr (fun ρ a W hR hd hf => ?hf0) ?_
  case hf0 =>
    have e0 := Mono.init_get hf (t := 0) (by kernel_rfl)
    clear hd hf
    (go_simp; try with_reducible rfl)
  refine Mono.rgl_val (v := ?vf1) rfl Mono.rr (fun ρ a W hR hd hf => ?hf1) ?_
  case hf1 =>
    have e8 := Mono.dep_val hd hf (t := 8) (k := 0) (by kernel_rfl) rfl
    clear hd hf
    (go_simp; try with_reducible rfl)
  refine Mono.rgl_val (v := ?vf2) rfl Mono.rr (fun ρ a W hR hd hf => ?hf2) ?_
  case hf2 =>
    have e9 := Mono.dep_val hd hf (t := 9) (k := 1) (by kernel_rfl) rfl
    clear hd hf
    (go_simp; try with_reducible rfl)
  refine Mono.rgl_val (v := ?vf3) rfl Mono.rr (fun ρ a W hR hd hf => ?hf3) ?_
  case hf3 =>
    have e10 := Mono.dep_val hd hf (t := 10) (k := 2) (by kernel_rfl) rfl
    have hk := k1.out W hR
    clear hd hf
    (go_simp; try with_reducible rfl)
  refine Mono.rgl_val (v := ?vf4) rfl Mono.rr (fun ρ a W hR hd hf => ?hf4) ?_
  case hf4 =>
    have e3 := Mono.init_get hf (t := 3) (by kernel_rfl)
    clear hd hf
    (go_simp; try with_reducible rfl)
  refine Mono.rgl_val (v := ?vf5) rfl Mono.rr (fun ρ a W hR hd hf => ?hf5) ?_
  case hf5 =>
    have e12 := Mono.dep_val hd hf (t := 12) (k := 4) (by kernel_rfl) rfl
    have hk := k2.out W hR
    clear hd hf
    (go_simp; try with_reducible rfl)
  refine Mono.rgl_val (v := ?vf6) rfl Mono.rr (fun ρ a W hR hd hf => ?hf6) ?_
  case hf6 =>
    have e11 := Mono.dep_val hd hf (t := 11) (k := 3) (by kernel_rfl) rfl
    have e13 := Mono.dep_val hd hf (t := 13) (k := 5) (by kernel_rfl) rfl
    have hk := HLK.out W hR
    clear hd hf
    (go_simp; try with_reducible rfl)
  refine Mono.rgl_val (v := ?vf7) rfl Mono.rr (fun ρ a W hR hd hf => ?hf7) ?_
  case hf7 =>
    have e14 := Mono.dep_val hd hf (t := 14) (k := 6) (by kernel_rfl) rfl
    clear hd hf
    (go_simp; try with_reducible rfl)
  refine Mono.rgl_val (v := ?vf8) rfl Mono.rr (fun ρ a W hR hd hf => ?hf8) ?_
  case hf8 =>
    have e7 := Mono.dep_val hd hf (t := 7) (k := 7) (by kernel_rfl) rfl
    clear hd hf
    (go_simp; try with_reducible rfl)
  refine Mono.rgl_val (v := ?vf9) rfl Mono.rr (fun ρ a W hR hd hf => ?hf9) ?_
  case hf9 =>
    have e7 := Mono.dep_val hd hf (t := 7) (k := 7) (by kernel_rfl) rfl
    clear hd hf
    (go_simp; try with_reducible rfl)
  refine Mono.rgl_val (v := ?vf10) rfl Mono.rr (fun ρ a W hR hd hf => ?hf10) ?_
  case hf10 =>
    have e15 := Mono.dep_val hd hf (t := 15) (k := 8) (by kernel_rfl) rfl
    clear hd hf
    (go_simp; try with_reducible rfl)
  refine Mono.rgl_val (v := ?vf11) rfl Mono.rr (fun ρ a W hR hd hf => ?hf11) ?_
  case hf11 =>
    have e16 := Mono.dep_val hd hf (t := 16) (k := 9) (by kernel_rfl) rfl
    clear hd hf
    (go_simp; try with_reducible rfl)
  refine Mono.rgl_done rfl (fun ρ W hR ht => ?_)
  obtain ⟨df11, df10, df9, df8, df7, df6, df5, df4, df3, df2, df1, df0, _⟩ := ht
  simp only [List.length_cons, List.length_nil, Nat.reduceAdd] at df0 df1 df2 df3 df4 df5 df6 df7 df8 df9 df10 df11
  simp only [Mono.putAll, Nat.reduceAdd, df0, df1, df2, df3, df4, df5, df6, df7, df8, df9, df10, df11, Act.put, List.setIfInBounds_toArray, List.set_cons_zero, List.set_cons_succ]
  clear df0 df1 df2 df3 df4 df5 df6 df7 df8 df9 df10 df11

  have HB := Lib.hid (HA.out.trans (hR.mono HA.out.size))
  have HO2 := Lib.hid (HO.out W hR)
  have HOA2 := Lib.hid (HOA.out W hR)
  have HRW2 := Lib.hid (HRW.out W hR)
  have HMW2 := Lib.hid (HMW.out W hR)
  have hzW : wa.heap.size ≤ W.heap.size := hR.size
  have k0' := HO2.out.1 0 _ rfl
  have HMA := Lib.hid (HH.out.below HB.out)
  have HBF : Hid (Below mm w _ ∧ FrD mb mm base w _) := Lib.hid ⟨HB.out.mono (show mm ≤ w.heap.size by omega), FrD.of_below HB.out⟩
  have e1 : (kind == 1) = false := by simpa using hk.1
  have e2 : (kind == 2) = false := by simpa using hk.2.1
  have e3 : (kind == 3) = false := by simpa using hk.2.2
  have HK := Lib.hid hk
  clear hR k1 k2 HLK HO HOA HRW HMW k0 hk
  go_wp2_with (fail)
  go_ret
  exact Do_p.mk (l' := l) (by rw [HTE.out, if_neg HK.out.1, if_neg HK.out.2.1, if_neg HK.out.2.2]) HMA.out HBF.out
theorem do_any (mb mm base : Nat) (l ns : List ByteArray) (c : CallV) (w : World) (h : ModelAt w mb mm base l) (hl : l.length ≤ 1000) (hs : c.name.size ≤ maxLen) (hns : ns.length = c.nn) (B : Nat) (hB : B ≤ w.heap.size) (hS : Sl w B 1 (.slice c.na c.nn c.nc) c.nn (scells ns)) (hn1 : ns.length ≤ 1000) :
    Calls Tryd.prog 34 #[.pointer (some ⟨mb, 0, none⟩), c.agg] w (Do_p l c ns mb mm base w) := by
  by_cases h1 : c.kind = 1
  · exact do_put mb mm base l ns c w h hl hs h1
  by_cases h2 : c.kind = 2
  · obtain ⟨lt1, lt2, lt3, v, D, n, ho, hr, hm, hn, hh⟩ := id h
    refine (do_has mb mm n D v c w ho.1 (by omega) hm hs h2).mono ?_
    rintro e w' ⟨rfl, hb⟩
    refine Do_p.mk (l' := l) ?_ (h.below hb) ⟨hb.mono (by omega), FrD.of_below hb⟩
    unfold tells
    rw [if_neg h1, if_pos h2, hh c.name hs]
  by_cases h3 : c.kind = 3
  · exact do_list mb mm base l ns c w h hl hs hns B hB hS hn1 h3
  · exact do_none mb mm base l ns c w h hl hs ⟨h1, h2, h3⟩
end Go.Proofs.YtmcbgjkogggneaaDoor
