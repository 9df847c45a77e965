/- The reference's Tells. -/
import Derived.Test.YtmcbgjkogggneaaDoorLkA
import Derived.Deep.RegionHeld3
import Derived.Deep.RegionLaw
import Derived.Deep.RegionLawGrows
namespace Go.Proofs.YtmcbgjkogggneaaDoor
set_option maxRecDepth 100000
set_option linter.unusedVariables false
set_option linter.unusedSimpArgs false
open Go.RowKit
theorem step_append_row {e size t bytes base n : Nat} {v : Value} {xs : List Value} {z : Value} (ht : Tryd.prog.underlying t = some (.slice e)) (hinfo : (Tryd.prog.info? e).map (fun i => (i.zero, i.size, i.bytes)) = some (some z, size, bytes)) (hzs : z.cells.size = size) (hsz : 0 < size)
    {ops : Array Oper} {o : Oper} {a : Act} {w : World} {K : Act → World → Prop} {Q : Exit → Act → World → Prop} {E : Prop} (hgd : o.guard = none) (s x : Operand)
    (ho : o.op = .call { callee := .builtin .append, args := #[s, x], argTypes := #[t, t] }) (hs : a.eval s = v) (hown : Row base e size w v n xs)
    {B : Nat} {u : Value} {m : Nat} {news : List Value} (hx : a.eval x = u) (hsl : Sl w B size u m news) (h1 : ∀ u ∈ news, u.oneCell' = true) (hn : n + m ≤ 1000000000000) (hby : (n + m) * bytes ≤ 140737488355328) (hbase : base ≤ w.heap.size)
    (h : ∀ v' w', Row base e size w' v' (n + m) (xs ++ news) → Below base w w' → w.grownBy w' v.ownBlock → K (a.put o.dst v') w') : if Region.wanted o (yielded ops a.tmps) = true then Oper.wp Tryd.prog o a w K Q else E := by
  have hw : Region.wanted o (yielded ops a.tmps) = true := by simp [Region.wanted, hgd]
  rw [if_pos hw]
  obtain ⟨i0, hi, hz0, hz1, hz2⟩ := info_parts hinfo
  obtain ⟨hl, au, cap, rfl, hcap, hor⟩ := hsl
  have fin : ∀ v' w', w'.ownsRow base e size v' (n + m) (xs ++ news) → w.grownBy w' v.ownBlock → K (a.put o.dst v') w' := fun v' w' k1 k2 =>
    h v' w' k1 ((Below.refl _ _).grown k2 hbase (fun k hk => (World.ownsRow.lt hown k hk).1)) k2
  rcases hor with ⟨h0, hc⟩ | ⟨b, off, rfl, hb, hcells⟩
  · subst h0
    have hnil : news = [] := List.eq_nil_of_length_eq_zero (by simpa using hl)
    subst hnil
    cases au with
    | none =>
      rw [hc rfl] at hx
      have hrun := run_append_owned_none (P := Tryd.prog) (w := w) base t o.type e i0 size ht hi v n xs hown
      unfold Oper.wp
      simp [execOp, ho, resolve, invoke, builtin, hs, hx, hrun, Result.andThen]
      refine fin v w ?_ ⟨rfl, rfl, rfl, Nat.le_refl _, fun _ _ _ => rfl⟩
      simpa using (show w.ownsRow base e size v n xs from hown)
    | some ad =>
      refine wp_append_own w s x t ho base e i0 z size bytes ht hi hz0 hz1 hz2 hzs hsz v n xs hs hown ad 0 cap [] hx (by simp) (fun j u hj => by simp at hj) (by simp) (by unfold maxLen; omega) hby hbase ?_
      intro v' w' k1 k2 _
      exact fin v' w' k1 k2
  · refine wp_append_own w s x t ho base e i0 z size bytes ht hi hz0 hz1 hz2 hzs hsz v n xs hs hown ⟨b, off, none⟩ m cap news hx hl (fun j u hj => by rw [add_plain]; exact hcells j u hj) h1 (by unfold maxLen; omega) hby hbase ?_
    intro v' w' k1 k2 _
    exact fin v' w' k1 k2
/-- The names then, and whether what was told is true. -/
def tells (l : List ByteArray) (c : CallV) (ns : List ByteArray) : List ByteArray × Bool :=
  if c.kind = 1 then (if hasL l c.name then (l, decide (0 ≤ c.fin) && !c.told) else (l ++ [c.name], decide (c.fin < 0) || c.told))
  else if c.kind = 2 then (l, c.told == hasL l c.name)
  else if c.kind = 3 then (l, decide (l = ns))
  else (l, false)
def Tells_p (l : List ByteArray) (c : CallV) (ns : List ByteArray) (w : World) (e : Ending) (w' : World) : Prop :=
  ∃ v', e = .returned (.tuple #[v', .bool (tells l c ns).2]) ∧ Sl w' w'.heap.size 1 v' (tells l c ns).1.length (scells (tells l c ns).1) ∧ Below w.heap.size w w'
theorem Tells_p.mk {l l' : List ByteArray} {c : CallV} {ns : List ByteArray} {ok : Bool} {w w' : World} {v' : Value} {n : Nat} (h : tells l c ns = (l', ok)) (hn : l'.length = n) (hs : Sl w' w'.heap.size 1 v' n (scells l')) (hb : Below w.heap.size w w') : Tells_p l c ns w (.returned (.tuple #[v', .bool ok])) w' := by
  refine ⟨v', by rw [h], ?_, hb⟩
  rw [h, hn]
  exact hs
theorem info_str : (Tryd.prog.info? 9).map (fun i => (i.zero, i.size, i.bytes)) = some (some (.string ⟨#[]⟩), 1, 16) := by kernel_rfl
theorem scells_len (l : List ByteArray) : (scells l).length = l.length := by unfold scells; simp
theorem scells_app (l : List ByteArray) (s : ByteArray) : scells (l ++ [s]) = scells l ++ [.string s] := by unfold scells; simp
theorem scells_one (l : List ByteArray) : ∀ u ∈ scells l, u.oneCell' = true := by
  intro u hu
  unfold scells at hu
  rw [List.mem_map] at hu
  obtain ⟨k, _, rfl⟩ := hu
  rfl
theorem one_kept {X w' : World} {b b' : Nat} {u : Value} (hc : X.cell? ⟨b', 0, none⟩ = some u) (hg : X.grownBy w' (some b)) (hne : b' ≠ b) (hlt : b' < X.heap.size) : Sl w' (b' + 1) 1 (.slice (some ⟨b', 0, none⟩) 1 1) 1 [u] := by
  refine ⟨rfl, _, _, rfl, Nat.le_refl _, .inr ⟨b', 0, rfl, Nat.lt_succ_self _, fun j x hj => ?_⟩⟩
  cases j with
  | zero =>
    simp only [List.getElem?_cons_zero, Option.some.injEq] at hj
    subst hj
    exact (World.cell?_of_block (w := X) (a := ⟨b', 0, none⟩) (hg.block b' hlt (fun e => hne (by injection e)))).trans hc
  | succ j => simp at hj
set_option maxHeartbeats 4000000 in
theorem tells_any (l ns : List ByteArray) (c : CallV) (v : Value) (B : Nat) (w : World) (h1 : Sl w B 1 v l.length (scells l)) (h2 : Sl w B 1 (.slice c.na c.nn c.nc) c.nn (scells ns)) (hns : ns.length = c.nn) (hB : B ≤ w.heap.size) (hl : l.length ≤ 1000000) (hr : ns.length ≤ 1000000) :
    Calls Tryd.prog 25 #[v, c.agg] w (Tells_p l c ns w) := by
  obtain ⟨a, cap, rfl, hcap⟩ := h1.form
  obtain ⟨kind, name, told, na, nn, nc, beg, fin⟩ := c
  simp only at h2 hns
  have hA := (Below.refl w.heap.size w).alloc (Nat.le_refl _) (.cells #[.int .i64 kind, .string name, .bool told, .slice na nn nc, .int .i64 beg, .int .i64 fin] 34)
  obtain ⟨wa, hwa⟩ : ∃ z : World, z = w.alloc (.cells #[.int .i64 kind, .string name, .bool told, .slice na nn nc, .int .i64 beg, .int .i64 fin] 34) := ⟨_, rfl⟩
  rw [← hwa] at hA
  have hO : Cells wa w.heap.size [.int .i64 kind, .string name, .bool told, .slice na nn nc, .int .i64 beg, .int .i64 fin] := by rw [hwa]; exact Cells.new w _ _
  have hsz : w.heap.size < wa.heap.size := by rw [hwa]; simp
  have HS := Lib.hid (fun (W : World) (hW : Below wa.heap.size wa W) => (h1.below (hA.mono hB)).below (hW.mono (Nat.le_trans hB hA.size)))
  have HS2 := Lib.hid (fun (W : World) (hW : Below wa.heap.size wa W) => (h2.below (hA.mono hB)).below (hW.mono (Nat.le_trans hB hA.size)))
  have HO := Lib.hid (fun (W : World) (hW : Below wa.heap.size wa W) => hO.below hW hsz)
  have HHAS := Lib.hid (has_any l name (.slice a l.length cap) B wa (h1.below (hA.mono hB)) hl)
  have HSAME := Lib.hid (same_any l ns (.slice a l.length cap) (.slice na nn nc) B wa (h1.below (hA.mono hB)) (by rw [hns]; exact h2.below (hA.mono hB)) (Nat.le_trans hB hA.size) hl hr)
  have HA := Lib.hid hA
  have c0 := hO 0 _ rfl
  have c1 := hO 1 _ rfl
  have c2 := hO 2 _ rfl
  have c3 := hO 3 _ rfl
  have c5 := hO 5 _ rfl
  have HTE : Hid (tells l ⟨kind, name, told, na, nn, nc, beg, fin⟩ ns = if kind = 1 then (if hasL l name then (l, decide (0 ≤ fin) && !told) else (l ++ [name], decide (fin < 0) || told)) else if kind = 2 then (l, told == hasL l name) else if kind = 3 then (l, decide (l = ns)) else (l, false)) := rfl
  unfold CallV.agg
  clear h1 h2 hA hO
  obtain ⟨n, hn⟩ : ∃ n, l.length = n := ⟨_, rfl⟩
  have HN := Lib.hid hn
  have hnn : n ≤ 1000000 := by omega
  rw [hn] at HS HHAS HSAME hcap ⊢
  clear hn hl
  generalize hbh : hasL l name = b at *
  clear hbh
  go_enter Tryd.func25, Tryd.ntmps25
  go_wp2_with (fail)
  rw [← hwa]
  clear hwa
  refine HHAS.out.mono ?_
  rintro e w1 ⟨rfl, rfl⟩
  obtain ⟨wa, rfl⟩ : ∃ z : World, z = w1 := ⟨_, rfl⟩
  clear HHAS
  by_cases hk1 : kind = 1
  · subst hk1
    cases b with
    | true =>
      by_cases hf : 0 ≤ fin
      · have d1 : decide (0 ≤ fin) = true := decide_eq_true hf
        clear hf
        go_upto_region 5 with (fail)
        refine Mono.region_below (by kernel_rfl) (by kernel_rfl) (by kernel_rfl) ?_
        refine Mono.rgl_val (v := ?va0) rfl Mono.rr (fun ρ a W hR hd hf => ?ha0) ?_
        case ha0 =>
          have e0 := Mono.init_get hf (t := 0) (by kernel_rfl)
          clear hd hf
          (go_simp; try with_reducible rfl)
        refine Mono.rgl_val (v := ?va1) rfl Mono.rr (fun ρ a W hR hd hf => ?ha1) ?_
        case ha1 =>
          have e3 := Mono.init_get hf (t := 3) (by kernel_rfl)
          clear hd hf
          (go_simp; try with_reducible rfl)
        refine Mono.rgl_val (v := ?va2) rfl Mono.rr (fun ρ a W hR hd hf => ?ha2) ?_
        case ha2 =>
          have e17 := Mono.dep_val hd hf (t := 17) (k := 1) (by kernel_rfl) rfl
          have hk := HO.out W hR 5 _ rfl
          clear hd hf
          (go_simp; try with_reducible rfl)
        refine Mono.rgl_val (v := ?va3) rfl Mono.rr (fun ρ a W hR hd hf => ?ha3) ?_
        case ha3 =>
          have e18 := Mono.dep_val hd hf (t := 18) (k := 2) (by kernel_rfl) rfl
          clear hd hf
          (go_simp; try with_reducible rfl)
        refine Mono.rgl_val (v := ?va4) rfl Mono.rr (fun ρ a W hR hd hf => ?ha4) ?_
        case ha4 =>
          have e19 := Mono.dep_val hd hf (t := 19) (k := 3) (by kernel_rfl) rfl
          clear hd hf
          (go_simp; try with_reducible rfl)
        refine Mono.rgl_valg (v := ?va5) rfl Mono.rr (fun ρ W hd => Mono.guard_val hd (t := 20) (k := 4) (by kernel_rfl) rfl) (fun ρ a W hR hd hf => ?ha5) ?_
        case ha5 =>
          have e3 := Mono.init_get hf (t := 3) (by kernel_rfl)
          clear hd hf
          (go_simp; try with_reducible rfl)
        refine Mono.rgl_valg (v := ?va6) rfl Mono.rr (fun ρ W hd => Mono.guard_val hd (t := 20) (k := 4) (by kernel_rfl) rfl) (fun ρ a W hR hd hf => ?ha6) ?_
        case ha6 =>
          have e21 := Mono.dep_val hd hf (t := 21) (k := 5) (by kernel_rfl) rfl
          have hk := HO.out W hR 2 _ rfl
          clear hd hf
          (go_simp; try with_reducible rfl)
        refine Mono.rgl_valg (v := ?va7) rfl Mono.rr (fun ρ W hd => Mono.guard_val hd (t := 20) (k := 4) (by kernel_rfl) rfl) (fun ρ a W hR hd hf => ?ha7) ?_
        case ha7 =>
          have e22 := Mono.dep_val hd hf (t := 22) (k := 6) (by kernel_rfl) rfl
          clear hd hf
          (go_simp; try with_reducible rfl)
        refine Mono.rgl_val (v := ?va8) rfl Mono.rr (fun ρ a W hR hd hf => ?ha8) ?_
        case ha8 =>
          have e20 := Mono.dep_val hd hf (t := 20) (k := 4) (by kernel_rfl) rfl
          have e23 := Mono.dep_val hd hf (t := 23) (k := 7) (by kernel_rfl) rfl
          clear hd hf
          (go_simp; try with_reducible rfl)
        refine Mono.rgl_val (v := ?va9) rfl Mono.rr (fun ρ a W hR hd hf => ?ha9) ?_
        case ha9 =>
          have e16 := Mono.dep_val hd hf (t := 16) (k := 0) (by kernel_rfl) rfl
          clear hd hf
          (go_simp; try with_reducible rfl)
        refine Mono.rgl_val (v := ?va10) rfl Mono.rr (fun ρ a W hR hd hf => ?ha10) ?_
        case ha10 =>
          have e24 := Mono.dep_val hd hf (t := 24) (k := 8) (by kernel_rfl) rfl
          clear hd hf
          (go_simp; try with_reducible rfl)
        refine Mono.rgl_done rfl (fun ρ W hR ht => ?_)
        obtain ⟨da10, da9, da8, da7, da6, da5, da4, da3, da2, da1, da0, _⟩ := ht
        simp only [List.length_cons, List.length_nil, Nat.reduceAdd] at da0 da1 da2 da3 da4 da5 da6 da7 da8 da9 da10
        simp only [Mono.putAll, Nat.reduceAdd, da0, da1, da2, da3, da4, da5, da6, da7, da8, da9, da10, Act.put, List.setIfInBounds_toArray, List.set_cons_zero, List.set_cons_succ]
        clear da0 da1 da2 da3 da4 da5 da6 da7 da8 da9 da10
        have HB := Lib.hid (HA.out.trans (hR.mono HA.out.size))
        have HSL := Lib.hid (HS.out W hR)
        clear hR
        go_wp2_with (fail)
        go_ret2
        exact Tells_p.mk (by rw [HTE.out]; simp [d1]) HN.out (HSL.out.mono (Nat.le_trans hB HB.out.size)) HB.out
      · have d1 : decide (0 ≤ fin) = false := decide_eq_false hf
        clear hf
        go_upto_region 5 with (fail)
        refine Mono.region_below (by kernel_rfl) (by kernel_rfl) (by kernel_rfl) ?_
        refine Mono.rgl_val (v := ?vb0) rfl Mono.rr (fun ρ a W hR hd hf => ?hb0) ?_
        case hb0 =>
          have e0 := Mono.init_get hf (t := 0) (by kernel_rfl)
          clear hd hf
          (go_simp; try with_reducible rfl)
        refine Mono.rgl_val (v := ?vb1) rfl Mono.rr (fun ρ a W hR hd hf => ?hb1) ?_
        case hb1 =>
          have e3 := Mono.init_get hf (t := 3) (by kernel_rfl)
          clear hd hf
          (go_simp; try with_reducible rfl)
        refine Mono.rgl_val (v := ?vb2) rfl Mono.rr (fun ρ a W hR hd hf => ?hb2) ?_
        case hb2 =>
          have e17 := Mono.dep_val hd hf (t := 17) (k := 1) (by kernel_rfl) rfl
          have hk := HO.out W hR 5 _ rfl
          clear hd hf
          (go_simp; try with_reducible rfl)
        refine Mono.rgl_val (v := ?vb3) rfl Mono.rr (fun ρ a W hR hd hf => ?hb3) ?_
        case hb3 =>
          have e18 := Mono.dep_val hd hf (t := 18) (k := 2) (by kernel_rfl) rfl
          clear hd hf
          (go_simp; try with_reducible rfl)
        refine Mono.rgl_val (v := ?vb4) rfl Mono.rr (fun ρ a W hR hd hf => ?hb4) ?_
        case hb4 =>
          have e19 := Mono.dep_val hd hf (t := 19) (k := 3) (by kernel_rfl) rfl
          clear hd hf
          (go_simp; try with_reducible rfl)
        refine Mono.rgl_skip rfl (by decide) (fun ρ W hd => Mono.guard_val hd (t := 20) (k := 4) (by kernel_rfl) rfl) ?_
        refine Mono.rgl_skip rfl (by decide) (fun ρ W hd => Mono.guard_val hd (t := 20) (k := 4) (by kernel_rfl) rfl) ?_
        refine Mono.rgl_skip rfl (by decide) (fun ρ W hd => Mono.guard_val hd (t := 20) (k := 4) (by kernel_rfl) rfl) ?_
        refine Mono.rgl_val (v := ?vb8) rfl Mono.rr (fun ρ a W hR hd hf => ?hb8) ?_
        case hb8 =>
          have e20 := Mono.dep_val hd hf (t := 20) (k := 4) (by kernel_rfl) rfl
          have e23 := Mono.dep_val hd hf (t := 23) (k := 7) (by kernel_rfl) rfl
          clear hd hf
          (go_simp; try with_reducible rfl)
        refine Mono.rgl_val (v := ?vb9) rfl Mono.rr (fun ρ a W hR hd hf => ?hb9) ?_
        case hb9 =>
          have e16 := Mono.dep_val hd hf (t := 16) (k := 0) (by kernel_rfl) rfl
          clear hd hf
          (go_simp; try with_reducible rfl)
        refine Mono.rgl_val (v := ?vb10) rfl Mono.rr (fun ρ a W hR hd hf => ?hb10) ?_
        case hb10 =>
          have e24 := Mono.dep_val hd hf (t := 24) (k := 8) (by kernel_rfl) rfl
          clear hd hf
          (go_simp; try with_reducible rfl)
        refine Mono.rgl_done rfl (fun ρ W hR ht => ?_)
        obtain ⟨db10, db9, db8, db7, db6, db5, db4, db3, db2, db1, db0, _⟩ := ht
        simp only [List.length_cons, List.length_nil, Nat.reduceAdd] at db0 db1 db2 db3 db4 db5 db6 db7 db8 db9 db10
        simp only [Mono.putAll, Nat.reduceAdd, db0, db1, db2, db3, db4, db5, db6, db7, db8, db9, db10, Act.put, List.setIfInBounds_toArray, List.set_cons_zero, List.set_cons_succ]
        clear db0 db1 db2 db3 db4 db5 db6 db7 db8 db9 db10
        have HB := Lib.hid (HA.out.trans (hR.mono HA.out.size))
        have HSL := Lib.hid (HS.out W hR)
        clear hR
        go_wp2_with (fail)
        go_ret2
        exact Tells_p.mk (by rw [HTE.out]; simp [d1]) HN.out (HSL.out.mono (Nat.le_trans hB HB.out.size)) HB.out
    | false =>
      have hlt1 : (∃ k : Nat, fin = Int.negSucc k) ∨ (∃ k : Nat, fin = (k : Int)) := by cases fin with | ofNat k => exact .inr ⟨k, rfl⟩ | negSucc k => exact .inl ⟨k, rfl⟩
      have HX1 : Hid (Below wa.heap.size wa ((wa.drew).alloc (.cells #[] 9))) := Lib.hid (((Below.refl _ wa).drew).alloc (Nat.le_refl _) _)
      have HX2 : Hid (Below wa.heap.size wa (((wa.drew).alloc (.cells #[] 9)).alloc (.cells #[.string name] 9))) := Lib.hid (HX1.out.alloc HX1.out.size _)
      have HX3 : Hid (Below wa.heap.size wa (((wa.drew).alloc (.cells #[.string name] 9)).alloc (.cells #[] 9))) := Lib.hid ((((Below.refl _ wa).drew).alloc (Nat.le_refl _) _).alloc (by simp) _)
      have HE1 := Lib.hid (Row.empty (base := wa.heap.size) (e := 9) (size := 1) wa.drew (Nat.le_refl _))
      have HE2 := Lib.hid (HE1.out.below ((Below.refl _ _).alloc (Nat.le_refl _) (.cells #[.string name] 9)))
      have he3 := Row.empty (base := wa.heap.size) (e := 9) (size := 1) (wa.drew.alloc (.cells #[.string name] 9)) (by simp)
      rw [show (wa.drew.alloc (.cells #[.string name] 9)).heap.size = wa.heap.size + 1 by simp] at he3
      have HE3 := Lib.hid he3
      clear he3
      have HS1 := Lib.hid (HS.out _ HX1.out)
      have HSX2 := Lib.hid (HS.out _ HX2.out)
      have HSX3 := Lib.hid (HS.out _ HX3.out)
      have HC2 : Hid ((((wa.drew).alloc (.cells #[] 9)).alloc (.cells #[.string name] 9)).cell? ⟨wa.heap.size + 1, 0, none⟩ = some (.string name)) := Lib.hid (by rw [World.cell?_alloc_at _ _ _ _ (by simp)]; rfl)
      have HC3 : Hid ((((wa.drew).alloc (.cells #[.string name] 9)).alloc (.cells #[] 9)).cell? ⟨wa.heap.size, 0, none⟩ = some (.string name)) := Lib.hid (by rw [World.cell?_alloc_old _ _ _ (by simp), World.cell?_alloc_at _ _ _ _ (by simp)]; rfl)
      have HONE : Hid (∀ u ∈ scells l, u.oneCell' = true) := Lib.hid (scells_one l)
      have HLS : Hid (∀ (n' : Nat) (xs : List Value), n' = n + 1 → xs = scells (l ++ [name]) → True) := Lib.hid (fun _ _ _ _ => trivial)
      rcases hlt1 with ⟨k, rfl⟩ | ⟨k, rfl⟩
      · go_wp2_with (fail)
        first | (go_region_law (first
            | (refine step_append_row Tryd.underlying30 info_str rfl (by decide) rfl (.tmp 25) (.tmp 26) rfl rfl HE1.out rfl HS1.out HONE.out (by omega) (by omega) HX1.out.size ?_
               intro v27 w27 hr27 hb27 hg27
               have HB27 := Lib.hid (HX1.out.trans hb27)
               have HR27 := Lib.hid hr27
               have e1 := HO.out w27 HB27.out 1 _ rfl
               have e2 := HO.out w27 HB27.out 2 _ rfl
               have e5 := HO.out w27 HB27.out 5 _ rfl
               have hz27 := HB27.out.size
               have hz27' : w.heap.size < w27.heap.size := Nat.lt_of_lt_of_le hsz hz27
               clear hr27 hb27 hg27)
            | (refine step_append_row Tryd.underlying30 info_str rfl (by decide) rfl (.tmp 25) (.tmp 26) rfl rfl HE2.out rfl HSX2.out HONE.out (by omega) (by omega) HX2.out.size ?_
               intro v27 w27 hr27 hb27 hg27
               have HB27 := Lib.hid (HX2.out.trans hb27)
               have HR27 := Lib.hid hr27
               have HY27 := Lib.hid (one_kept HC2.out hg27 (by simp) (by simp))
               have e1 := HO.out w27 HB27.out 1 _ rfl
               have e2 := HO.out w27 HB27.out 2 _ rfl
               have e5 := HO.out w27 HB27.out 5 _ rfl
               have hz27 := HB27.out.size
               have hz27' : w.heap.size < w27.heap.size := Nat.lt_of_lt_of_le hsz hz27
               clear hr27 hb27 hg27)
            | (refine step_append_row Tryd.underlying30 info_str rfl (by decide) rfl (.tmp 25) (.tmp 26) rfl rfl HE3.out rfl HSX3.out HONE.out (by omega) (by omega) HX3.out.size ?_
               intro v27 w27 hr27 hb27 hg27
               have HB27 := Lib.hid (HX3.out.trans hb27)
               have HR27 := Lib.hid hr27
               have HY27 := Lib.hid (one_kept HC3.out hg27 (by simp <;> omega) (by simp <;> omega))
               have e1 := HO.out w27 HB27.out 1 _ rfl
               have e2 := HO.out w27 HB27.out 2 _ rfl
               have e5 := HO.out w27 HB27.out 5 _ rfl
               have hz27 := HB27.out.size
               have hz27' : w.heap.size < w27.heap.size := Nat.lt_of_lt_of_le hsz hz27
               clear hr27 hb27 hg27)
            | (refine step_append_row Tryd.underlying30 info_str rfl (by decide) rfl (.tmp 27) (.tmp 30) rfl rfl HR27.out rfl HY27.out (by intro u hu; simp at hu; subst hu; rfl) (by omega) (by omega) hz27 ?_
               intro v28 w28 hr28 hb28 hg28
               have HB28 := Lib.hid (HB27.out.trans hb28)
               have HR28 := Lib.hid hr28
               have e1 := HO.out w28 HB28.out 1 _ rfl
               have e2 := HO.out w28 HB28.out 2 _ rfl
               have e5 := HO.out w28 HB28.out 5 _ rfl
               clear hr28 hb28 hg28)
            | (refine step_append_row Tryd.underlying30 info_str rfl (by decide) rfl (.tmp 27) (.tmp 30) rfl rfl (HR27.out.below ((Below.refl _ _).alloc (Nat.le_refl _) (.cells #[.string name] 9))) rfl (Sl.new w27 1 1 [.string name] 9 rfl) (by intro u hu; simp at hu; subst hu; rfl) (by omega) (by omega) (by simp; omega) ?_
               intro v28 w28 hr28 hb28 hg28
               have HB28 := Lib.hid ((HB27.out.alloc hz27 _).trans hb28)
               have HR28 := Lib.hid hr28
               have e1 := HO.out w28 HB28.out 1 _ rfl
               have e2 := HO.out w28 HB28.out 2 _ rfl
               have e5 := HO.out w28 HB28.out 5 _ rfl
               clear hr28 hb28 hg28))) | fail
        all_goals
          go_wp2_with (fail)
          go_ret2
          exact Tells_p.mk (l' := l ++ [name]) (n := n + 1) (by rw [HTE.out]; simp [Int.negSucc_lt_zero]) (by rw [List.length_append, HN.out]; rfl) (by
            have := HR28.out.sl
            rw [Nat.zero_add, List.nil_append] at this
            rw [scells_app]
            exact this) (HA.out.trans (HB28.out.mono HA.out.size))
      · go_wp2_with (fail)
        go_region_held3 (fun w' => w'.cell? ⟨w.heap.size, 1, none⟩ = some (.string name) ∧ w'.cell? ⟨w.heap.size, 2, none⟩ = some (.bool told) ∧ w'.cell? ⟨w.heap.size, 5, none⟩ = some (.int .i64 (k : Int)))
          (first
            | exact ⟨e1, e2, e5⟩
            | go_keep)
          ((first
            | (refine step_append_row Tryd.underlying30 info_str rfl (by decide) rfl (.tmp 25) (.tmp 26) rfl rfl HE1.out rfl HS1.out HONE.out (by omega) (by omega) HX1.out.size ?_
               intro v27 w27 hr27 hb27 hg27
               have HB27 := Lib.hid (HX1.out.trans hb27)
               have HR27 := Lib.hid hr27
               have e1 := HO.out w27 HB27.out 1 _ rfl
               have e2 := HO.out w27 HB27.out 2 _ rfl
               have e5 := HO.out w27 HB27.out 5 _ rfl
               have hz27 := HB27.out.size
               have hz27' : w.heap.size < w27.heap.size := Nat.lt_of_lt_of_le hsz hz27
               clear hr27 hb27 hg27)
            | (refine step_append_row Tryd.underlying30 info_str rfl (by decide) rfl (.tmp 25) (.tmp 26) rfl rfl HE2.out rfl HSX2.out HONE.out (by omega) (by omega) HX2.out.size ?_
               intro v27 w27 hr27 hb27 hg27
               have HB27 := Lib.hid (HX2.out.trans hb27)
               have HR27 := Lib.hid hr27
               have HY27 := Lib.hid (one_kept HC2.out hg27 (by simp) (by simp))
               have e1 := HO.out w27 HB27.out 1 _ rfl
               have e2 := HO.out w27 HB27.out 2 _ rfl
               have e5 := HO.out w27 HB27.out 5 _ rfl
               have hz27 := HB27.out.size
               have hz27' : w.heap.size < w27.heap.size := Nat.lt_of_lt_of_le hsz hz27
               clear hr27 hb27 hg27)
            | (refine step_append_row Tryd.underlying30 info_str rfl (by decide) rfl (.tmp 25) (.tmp 26) rfl rfl HE3.out rfl HSX3.out HONE.out (by omega) (by omega) HX3.out.size ?_
               intro v27 w27 hr27 hb27 hg27
               have HB27 := Lib.hid (HX3.out.trans hb27)
               have HR27 := Lib.hid hr27
               have HY27 := Lib.hid (one_kept HC3.out hg27 (by simp <;> omega) (by simp <;> omega))
               have e1 := HO.out w27 HB27.out 1 _ rfl
               have e2 := HO.out w27 HB27.out 2 _ rfl
               have e5 := HO.out w27 HB27.out 5 _ rfl
               have hz27 := HB27.out.size
               have hz27' : w.heap.size < w27.heap.size := Nat.lt_of_lt_of_le hsz hz27
               clear hr27 hb27 hg27)
            | (refine step_append_row Tryd.underlying30 info_str rfl (by decide) rfl (.tmp 27) (.tmp 30) rfl rfl HR27.out rfl HY27.out (by intro u hu; simp at hu; subst hu; rfl) (by omega) (by omega) hz27 ?_
               intro v28 w28 hr28 hb28 hg28
               have HB28 := Lib.hid (HB27.out.trans hb28)
               have HR28 := Lib.hid hr28
               have e1 := HO.out w28 HB28.out 1 _ rfl
               have e2 := HO.out w28 HB28.out 2 _ rfl
               have e5 := HO.out w28 HB28.out 5 _ rfl
               clear hr28 hb28 hg28)
            | (refine step_append_row Tryd.underlying30 info_str rfl (by decide) rfl (.tmp 27) (.tmp 30) rfl rfl (HR27.out.below ((Below.refl _ _).alloc (Nat.le_refl _) (.cells #[.string name] 9))) rfl (Sl.new w27 1 1 [.string name] 9 rfl) (by intro u hu; simp at hu; subst hu; rfl) (by omega) (by omega) (by simp; omega) ?_
               intro v28 w28 hr28 hb28 hg28
               have HB28 := Lib.hid ((HB27.out.alloc hz27 _).trans hb28)
               have HR28 := Lib.hid hr28
               have e1 := HO.out w28 HB28.out 1 _ rfl
               have e2 := HO.out w28 HB28.out 2 _ rfl
               have e5 := HO.out w28 HB28.out 5 _ rfl
               clear hr28 hb28 hg28)))
        all_goals
          go_wp2_with (fail)
          go_ret2
          exact Tells_p.mk (l' := l ++ [name]) (n := n + 1) (by rw [HTE.out]; simp ) (by rw [List.length_append, HN.out]; rfl) (by
            have := HR28.out.sl
            rw [Nat.zero_add, List.nil_append] at this
            rw [scells_app]
            exact this) (HA.out.trans (HB28.out.mono HA.out.size))
  · by_cases hk2 : kind = 2
    · subst hk2
      go_upto_region 8 with (fail)
      refine Mono.region_below (by kernel_rfl) (by kernel_rfl) (by kernel_rfl) ?_
      refine Mono.rgl_val (v := ?vc0) rfl Mono.rr (fun ρ a W hR hd hf => ?hc0) ?_
      case hc0 =>
        have e0 := Mono.init_get hf (t := 0) (by kernel_rfl)
        clear hd hf
        (go_simp; try with_reducible rfl)
      refine Mono.rgl_val (v := ?vc1) rfl Mono.rr (fun ρ a W hR hd hf => ?hc1) ?_
      case hc1 =>
        have e3 := Mono.init_get hf (t := 3) (by kernel_rfl)
        clear hd hf
        (go_simp; try with_reducible rfl)
      refine Mono.rgl_val (v := ?vc2) rfl Mono.rr (fun ρ a W hR hd hf => ?hc2) ?_
      case hc2 =>
        have e42 := Mono.dep_val hd hf (t := 42) (k := 1) (by kernel_rfl) rfl
        have hk := HO.out W hR 2 _ rfl
        clear hd hf
        (go_simp; try with_reducible rfl)
      refine Mono.rgl_val (v := ?vc3) rfl Mono.rr (fun ρ a W hR hd hf => ?hc3) ?_
      case hc3 =>
        have e6 := Mono.init_get hf (t := 6) (by kernel_rfl)
        clear hd hf
        (go_simp; try with_reducible rfl)
      refine Mono.rgl_val (v := ?vc4) rfl Mono.rr (fun ρ a W hR hd hf => ?hc4) ?_
      case hc4 =>
        have e43 := Mono.dep_val hd hf (t := 43) (k := 2) (by kernel_rfl) rfl
        have e44 := Mono.dep_val hd hf (t := 44) (k := 3) (by kernel_rfl) rfl
        clear hd hf
        (go_simp; try with_reducible rfl)
      refine Mono.rgl_val (v := ?vc5) rfl Mono.rr (fun ρ a W hR hd hf => ?hc5) ?_
      case hc5 =>
        have e41 := Mono.dep_val hd hf (t := 41) (k := 0) (by kernel_rfl) rfl
        clear hd hf
        (go_simp; try with_reducible rfl)
      refine Mono.rgl_val (v := ?vc6) rfl Mono.rr (fun ρ a W hR hd hf => ?hc6) ?_
      case hc6 =>
        have e45 := Mono.dep_val hd hf (t := 45) (k := 4) (by kernel_rfl) rfl
        clear hd hf
        (go_simp; try with_reducible rfl)
      refine Mono.rgl_done rfl (fun ρ W hR ht => ?_)
      obtain ⟨dc6, dc5, dc4, dc3, dc2, dc1, dc0, _⟩ := ht
      simp only [List.length_cons, List.length_nil, Nat.reduceAdd] at dc0 dc1 dc2 dc3 dc4 dc5 dc6
      simp only [Mono.putAll, Nat.reduceAdd, dc0, dc1, dc2, dc3, dc4, dc5, dc6, Act.put, List.setIfInBounds_toArray, List.set_cons_zero, List.set_cons_succ]
      clear dc0 dc1 dc2 dc3 dc4 dc5 dc6

      have HB := Lib.hid (HA.out.trans (hR.mono HA.out.size))
      have HSL := Lib.hid (HS.out W hR)
      clear hR
      go_wp2_with (fail)
      go_ret2
      exact Tells_p.mk (l' := l) (by rw [HTE.out]; simp <;> (cases told <;> cases b <;> rfl)) HN.out (HSL.out.mono (Nat.le_trans hB HB.out.size)) HB.out
    · by_cases hk3 : kind = 3
      · subst hk3
        go_wp2_with (fail)
        refine HSAME.out.mono ?_
        rintro e w2 ⟨rfl, hb2⟩
        have HB := Lib.hid (HA.out.trans (hb2.mono HA.out.size))
        have HSL := Lib.hid (HS.out w2 hb2)
        clear hb2 HSAME
        go_wp2_with (fail)
        go_ret2
        exact Tells_p.mk (l' := l) (by rw [HTE.out]; simp) HN.out (HSL.out.mono (Nat.le_trans hB HB.out.size)) HB.out
      · have e1 : (kind == 1) = false := by simpa using hk1
        have e2 : (kind == 2) = false := by simpa using hk2
        have e3 : (kind == 3) = false := by simpa using hk3
        have HK := Lib.hid (And.intro hk1 (And.intro hk2 hk3))
        have HSL := Lib.hid (HS.out wa (Below.refl _ _))
        clear hk1 hk2 hk3 HSAME
        go_wp2_with (fail)
        go_ret2
        exact Tells_p.mk (l' := l) (by rw [HTE.out, if_neg HK.out.1, if_neg HK.out.2.1, if_neg HK.out.2.2]) HN.out (HSL.out.mono (Nat.le_trans hB HA.out.size)) HA.out
end Go.Proofs.YtmcbgjkogggneaaDoor
