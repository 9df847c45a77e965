/- The document's pieces, by their places. -/
import Derived.Test.YtfnaoekkdgndkaaCpN
namespace Go.Proofs.Ytfnaoekkdgndkaa
set_option maxRecDepth 100000
set_option linter.unusedVariables false
set_option linter.unusedSimpArgs false
open Go.RowKit
theorem sl_tail4 {w : World} {B b j bc q : Nat} {l : List Pc} (h : Sl w B 4 (.slice (some ⟨b, 0, none⟩) j bc) j (lc pcC l)) (hl : j = l.length) (hq : q ≤ j) :
    Sl w B 4 (.slice (if bc = q then some ⟨b, 0, none⟩ else some ⟨b, q * 4, none⟩) (j - q) (bc - q)) (j - q) (lc pcC (l.drop q)) := by
  obtain ⟨_, _, hv, hc⟩ := h.form
  injection hv with _ _ h3
  have hcap := hc
  refine ⟨by rw [lc_len pcC_len, List.length_drop, hl], _, _, rfl, by omega, ?_⟩
  by_cases e : q = j
  · refine .inl ⟨by omega, fun h0 => ?_⟩
    split at h0 <;> cases h0
  · obtain ⟨b1, off1, cap, hv1, _, hb, hcell⟩ := h.pos (by omega)
    injection hv1 with hv1
    injection hv1 with hv1
    injection hv1 with e1 e2
    subst e1 e2
    rw [if_neg (by omega)]
    refine .inr ⟨b, q * 4, rfl, hb, fun i u hi => ?_⟩
    rw [← lc_drop pcC_len, List.getElem?_drop] at hi
    have := hcell _ _ hi
    rwa [Nat.zero_add] at this
theorem lists_at {w : World} {B n cap b off : Nat} {us : Nat → Value} (h : Sl w B 1 (.slice (some ⟨b, off, none⟩) n cap) n (pcells n us)) {o : Nat} (ho : o < n) : w.cell? ⟨b, off + o, none⟩ = some (us o) := sl_same h (by omega) _ _ (pcells_get us ho)
theorem eval_tmp {a : Act} {t : Nat} {v : Value} (h : a.tmps[t]? = some v) : a.eval (.tmp t) = v := by
  simp [Act.eval, h]
theorem hstSl {size n : Nat} {cs : List Value} : ∀ v W W', (fun z W => Sl W W.heap.size size z n cs) v W → Below W.heap.size W W' → (fun z W => Sl W W.heap.size size z n cs) v W' :=
  fun _ _ _ h hb => (Sl.below h hb).mono hb.size
theorem hstRow {base e size n : Nat} {cs : List Value} : ∀ v W W', (fun z W => Row base e size W z n cs) v W → Below W.heap.size W W' → (fun z W => Row base e size W z n cs) v W' :=
  fun _ _ _ h hb => Row.below h hb
theorem mono_append_grows {e size t bytes : Nat} {z : Value} {i : TypeInfo} (ht : Try.prog.underlying t = some (.slice e)) (h2 : Try.prog.info? e = some i) (h3 : i.zero = some z) (h4 : i.size = size) (h5 : i.bytes = bytes) (h6 : z.cells.size = size) (h7 : 0 < size)
    {o : Oper} {a : Act} {W w0 : World} (s x : Operand) (ho : o.op = .call { callee := .builtin .append, args := #[s, x], argTypes := #[t, t] })
    {ao : Option Addr} {n cap : Nat} {olds : List Value} (hs : a.eval s = .slice ao n cap) (hnone : ao ≠ none) (hlo : olds.length = n * size) (holds : ∀ b, ao = some b → ∀ j u, olds[j]? = some u → W.cell? (b.add j) = some u)
    {u : Value} {m B : Nat} {news : List Value} (hx : a.eval x = u) (hsl : Sl W B size u (m + 1) news) (h1c : ∀ u ∈ news, u.oneCell' = true)
    (hfull : cap < n + (m + 1)) (b1 : n + (m + 1) ≤ maxLen) (b2 : (n + (m + 1)) * bytes ≤ 140737488355328) (hw0 : w0.heap.size ≤ W.heap.size) :
    ∃ v W', (execOp a.eval o).run Try.prog W = .ok (.value v) W' ∧ Below W.heap.size W W' ∧ Row w0.heap.size e size W' v (n + (m + 1)) (olds ++ news) := by
  obtain ⟨b, off, c, rfl, hc, _, hcell⟩ := hsl.pos (by omega)
  cases ao with
  | none => exact absurd rfl hnone
  | some ad =>
    obtain ⟨v', w', hrun, r1, r2⟩ := run_append_arg_grows (P := Try.prog) W t o.type e i z size bytes ht h2 h3 h4 h5 h6 h7 ad n cap olds hlo (holds ad rfl) ⟨b, off, none⟩ (m + 1) c news hsl.1 (fun j u hj => by rw [add_plain]; exact hcell j u hj) hfull b1 b2
    refine ⟨v', w', ?_, (Below.refl _ _).grown r2 (Nat.le_refl _) (fun _ h => by cases h), Row.mono r1 hw0⟩
    simp [execOp, ho, resolve, invoke, builtin, hs, hx, hrun, Result.andThen]
set_option maxHeartbeats 16000000 in
theorem pieces_any (n : Nat) (ls : Nat → List Sp) (us : Nat → Value) (v : Value) (B : Nat) (w : World) (h : Sl w B 1 v n (pcells n us)) (hB : B ≤ w.heap.size) (hl : ∀ o, o < n → Sl w w.heap.size 2 (us o) (ls o).length (lc spC (ls o))) (hn : n ≤ 1000) (hsum : sumL ls n ≤ 1000) :
    Calls Try.prog 9 #[v] w fun e w' => ∃ v', e = .returned v' ∧ Row w.heap.size 36 4 w' v' (sumL ls n) (lc pcC (pcs ls n)) ∧ Below w.heap.size w w' := by
  obtain ⟨a, cap, rfl, hcap⟩ := h.form
  have HS := Lib.hid (fun (W : World) (hW : Below w.heap.size w W) => h.below (hW.mono hB))
  have HL := Lib.hid (fun (W : World) (hW : Below w.heap.size w W) (o : Nat) (ho : o < n) => (hl o ho).below hW)
  clear h hl
  go_enter Try.func9, Try.ntmps9
  go_wp2_with (fail)
  go_loopw [3, 4] (fun x i wr => ∃ o : Nat, i = .int .i64 o ∧ o ≤ n ∧ Hid (Row w.heap.size 36 4 wr x (sumL ls o) (lc pcC (insL (allP ls o)))) ∧ Hid (Below w.heap.size w wr)) (fun _ i _ => n - (intOf i).toNat)
  case atStart => exact ⟨0, rfl, Nat.zero_le _, Lib.hid Row.nil, Lib.hid (Below.refl _ _)⟩
  case round =>
    obtain ⟨o, rfl, hj, HR, HB⟩ := hrel
    obtain ⟨wo, rfl⟩ : ∃ z : World, z = wr := ⟨_, rfl⟩
    obtain ⟨xa, xc, rfl, _⟩ := HR.out.form
    by_cases hlt : o < n
    rotate_left
    · have d1 : decide (o < n) = false := decide_eq_false hlt
      have d2 : decide ((o : Int) < (n : Int)) = false := decide_eq_false (by omega)
      obtain rfl : o = n := by omega
      go_wp2_with (fail)
      go_ret
      exact ⟨_, rfl, HR.out, HB.out⟩
    have d1 : decide (o < n) = true := decide_eq_true hlt
    have d2 : decide ((o : Int) < (n : Int)) = true := decide_eq_true (by omega)
    have q1 : IntKind.i64.wrap ((o : Int) + 1) = (o : Int) + 1 := IntWalk.i64_in _ (by omega)
    have hoi : (o : Int) < (n : Int) := by omega
    obtain ⟨lb, lo, rfl, _⟩ := sl_cells (HS.out wo HB.out) (by omega)
    have hsj : sumL ls (o + 1) ≤ sumL ls n := sumL_le ls hlt
    have hsj' : sumL ls (o + 1) = sumL ls o + (ls o).length := rfl
    have hap : allP ls (o + 1) = allP ls o ++ rowN o (ls o) (ls o).length := rfl
    obtain ⟨S, hS⟩ : ∃ z, sumL ls o = z := ⟨_, rfl⟩
    obtain ⟨m, hm⟩ : ∃ z, (ls o).length = z := ⟨_, rfl⟩
    have HAL : Hid (S = (allP ls o).length) := Lib.hid (by rw [allP_len, hS])
    rw [hS] at HR hsj' ⊢
    rw [hm] at hsj' hap
    have HM := Lib.hid hm
    have HSJ := Lib.hid hsj'
    have HAP := Lib.hid hap
    have hSm : S + m ≤ 1000 := by omega
    obtain ⟨ua, uc, hu, _⟩ := (HL.out wo HB.out o hlt).form
    rw [hm] at hu
    have HU := Lib.hid hu
    clear hsj hap hS hm hsj' hu
    go_wp2_with (fail)
    go_loopw [3, 5] (fun x i wr => ∃ k : Nat, i = .int .i64 k ∧ k ≤ m ∧ Hid (Row w.heap.size 36 4 wr x (S + k) (lc pcC (insL (allP ls o ++ rowN o (ls o) k)))) ∧ Hid (Below w.heap.size w wr)) (fun _ i _ => m - (intOf i).toNat)
    case atStart => exact ⟨0, rfl, Nat.zero_le _, Lib.hid (by have := HR.out; unfold rowN; rw [List.append_nil]; exact this), HB⟩
    case round =>
      clear HR HB
      obtain ⟨k, rfl, hk, HR, HB⟩ := hrel
      obtain ⟨w2, rfl⟩ : ∃ z : World, z = wr := ⟨_, rfl⟩
      have huc := lists_at (HS.out w2 HB.out) hlt
      rw [HU.out] at huc
      by_cases hkm : k < m
      rotate_left
      · have d3 : decide (k < m) = false := decide_eq_false hkm
        have d4 : decide ((k : Int) < (m : Int)) = false := decide_eq_false (by omega)
        obtain rfl : k = m := by omega
        obtain ⟨ya, yc, rfl, _⟩ := HR.out.form
        have HRJ : Hid (Row w.heap.size 36 4 w2 (.slice ya (S + k) yc) (sumL ls (o + 1)) (lc pcC (insL (allP ls (o + 1))))) := Lib.hid (by rw [HSJ.out, HAP.out]; exact HR.out)
        clear hkm
        go_wp2_with (fail)
        go_roundw
        case rel => exact ⟨o + 1, rfl, hlt, HRJ, HB⟩
        case measure => simp [intOf] <;> omega
      have d3 : decide (k < m) = true := decide_eq_true hkm
      have d4 : decide ((k : Int) < (m : Int)) = true := decide_eq_true (by omega)
      have q2 : IntKind.i64.wrap ((k : Int) + 1) = (k : Int) + 1 := IntWalk.i64_in _ (by omega)
      have hbk : (k : Int) < (m : Int) := by omega
      obtain ⟨x, hx⟩ : ∃ x, (ls o)[k]? = some x := ⟨_, List.getElem?_eq_getElem (by rw [HM.out]; exact hkm)⟩
      have hpc : pcOf o (ls o) k = ⟨x.1, x.2, o, k⟩ := by
        have h1 := atS_get (l := ls o) (j := k) (by rw [HM.out]; exact hkm)
        rw [hx] at h1
        unfold pcOf
        rw [← Option.some.inj h1]
      have hul := HL.out w2 HB.out o hlt
      rw [HU.out, HM.out] at hul
      obtain ⟨xb, xo, rfl, _⟩ := sl_cells hul (by omega)
      have kx := fun (W : World) (hW : Below w2.heap.size w2 W) => (sp_cells (hul.below (hW.mono HB.out.size)) HM.out.symm hx)
      have ku := fun (W : World) (hW : Below w2.heap.size w2 W) => (lists_at (HS.out W (HB.out.trans (hW.mono HB.out.size))) hlt)
      rw [HU.out] at ku
      have HXP := Lib.hid hpc
      obtain ⟨x1, x2⟩ := x
      simp only at kx HXP
      have KX := Lib.hid kx
      have KU := Lib.hid ku
      have hlen : (insL (allP ls o ++ rowN o (ls o) k)).length = S + k := by rw [(insL_perm _).length_eq, List.length_append, rowN_len, ← HAL.out]
      obtain ⟨out, hout⟩ : ∃ z, insL (allP ls o ++ rowN o (ls o) k) = z := ⟨_, rfl⟩
      obtain ⟨M, hM⟩ : ∃ z, S + k = z := ⟨_, rfl⟩
      rw [hout] at HR hlen
      rw [hM] at HR hlen
      have HOUT := Lib.hid hout
      have HMS := Lib.hid hM
      have HLO : Hid (M = out.length) := Lib.hid hlen.symm
      have hM1000 : M ≤ 1000 := by omega
      have hz2 := HB.out.size
      clear hpc hul kx ku hx hlen hout hM
      rcases row_form HR.out with ⟨rfl, hM0, _⟩ | ⟨g, gc, rfl, hgc, hgb, hgl⟩
      · subst hM0
        have HO0 : Hid (out = []) := Lib.hid (List.eq_nil_of_length_eq_zero HLO.out.symm)
        go_wp2_with (fail)
        refine wp_loop_rounds 1 ?_
        rw [rounds_succ]
        have d5 : decide ((0 : Int) < ((0 : Nat) : Int)) = false := by simp
        go_upto_region 9 with (fail)
        refine Mono.region_below (by kernel_rfl) (by kernel_rfl) (by kernel_rfl) ?_
        refine Mono.rgl_val (v := ?vd0) rfl Mono.rr (fun ρ a W hR hd hf => ?hd0) ?_
        case hd0 =>
          have e6 := Mono.init_get hf (t := 6) (by kernel_rfl)
          clear hd hf
          (go_simp; try with_reducible rfl)
        refine Mono.rgl_val (v := ?vd1) rfl Mono.rr (fun ρ a W hR hd hf => ?hd1) ?_
        case hd1 =>
          have e3 := Mono.init_get hf (t := 3) (by kernel_rfl)
          clear hd hf
          (go_simp; try with_reducible rfl)
        refine Mono.rgl_val (v := ?vd2) rfl Mono.rr (fun ρ a W hR hd hf => ?hd2) ?_
        case hd2 =>
          have e24 := Mono.dep_val hd hf (t := 24) (k := 1) (by kernel_rfl) rfl
          clear hd hf
          (go_simp; try with_reducible rfl)
        refine Mono.rgl_val (v := ?vd3) rfl Mono.rr (fun ρ a W hR hd hf => ?hd3) ?_
        case hd3 =>
          have e23 := Mono.dep_val hd hf (t := 23) (k := 0) (by kernel_rfl) rfl
          have e25 := Mono.dep_val hd hf (t := 25) (k := 2) (by kernel_rfl) rfl
          clear hd hf
          (go_simp; try with_reducible rfl)
        refine Mono.rgl_val (v := ?vd4) rfl Mono.rr (fun ρ a W hR hd hf => ?hd4) ?_
        case hd4 =>
          have e26 := Mono.dep_val hd hf (t := 26) (k := 3) (by kernel_rfl) rfl
          clear hd hf
          (go_simp; try with_reducible rfl)
        refine Mono.rgl_skip rfl (by decide) (fun ρ W hd => Mono.guard_val hd (t := 27) (k := 4) (by kernel_rfl) rfl) ?_
        refine Mono.rgl_skip rfl (by decide) (fun ρ W hd => Mono.guard_val hd (t := 27) (k := 4) (by kernel_rfl) rfl) ?_
        refine Mono.rgl_skip rfl (by decide) (fun ρ W hd => Mono.guard_val hd (t := 27) (k := 4) (by kernel_rfl) rfl) ?_
        refine Mono.rgl_skip rfl (by decide) (fun ρ W hd => Mono.guard_val hd (t := 27) (k := 4) (by kernel_rfl) rfl) ?_
        refine Mono.rgl_skip rfl (by decide) (fun ρ W hd => Mono.guard_val hd (t := 27) (k := 4) (by kernel_rfl) rfl) ?_
        refine Mono.rgl_skip rfl (by decide) (fun ρ W hd => Mono.guard_val hd (t := 27) (k := 4) (by kernel_rfl) rfl) ?_
        refine Mono.rgl_skip rfl (by decide) (fun ρ W hd => Mono.guard_val hd (t := 27) (k := 4) (by kernel_rfl) rfl) ?_
        refine Mono.rgl_skip rfl (by decide) (fun ρ W hd => Mono.guard_val hd (t := 27) (k := 4) (by kernel_rfl) rfl) ?_
        refine Mono.rgl_skip rfl (by decide) (fun ρ W hd => Mono.guard_val hd (t := 27) (k := 4) (by kernel_rfl) rfl) ?_
        refine Mono.rgl_skip rfl (by decide) (fun ρ W hd => Mono.guard_val hd (t := 27) (k := 4) (by kernel_rfl) rfl) ?_
        refine Mono.rgl_skip rfl (by decide) (fun ρ W hd => Mono.guard_val hd (t := 27) (k := 4) (by kernel_rfl) rfl) ?_
        refine Mono.rgl_skip rfl (by decide) (fun ρ W hd => Mono.guard_val hd (t := 27) (k := 4) (by kernel_rfl) rfl) ?_
        refine Mono.rgl_skip rfl (by decide) (fun ρ W hd => Mono.guard_val hd (t := 27) (k := 4) (by kernel_rfl) rfl) ?_
        refine Mono.rgl_skip rfl (by decide) (fun ρ W hd => Mono.guard_val hd (t := 27) (k := 4) (by kernel_rfl) rfl) ?_
        refine Mono.rgl_skip rfl (by decide) (fun ρ W hd => Mono.guard_val hd (t := 27) (k := 4) (by kernel_rfl) rfl) ?_
        refine Mono.rgl_val (v := ?vd20) rfl Mono.rr (fun ρ a W hR hd hf => ?hd20) ?_
        case hd20 =>
          have e27 := Mono.dep_val hd hf (t := 27) (k := 4) (by kernel_rfl) rfl
          have e42 := Mono.dep_val hd hf (t := 42) (k := 19) (by kernel_rfl) rfl
          clear hd hf
          (go_simp; try with_reducible rfl)
        refine Mono.rgl_done rfl (fun ρ W hR ht => ?_)
        obtain ⟨dd20, dd19, dd18, dd17, dd16, dd15, dd14, dd13, dd12, dd11, dd10, dd9, dd8, dd7, dd6, dd5, dd4, dd3, dd2, dd1, dd0, _⟩ := ht
        simp only [List.length_cons, List.length_nil, Nat.reduceAdd] at dd0 dd1 dd2 dd3 dd4 dd5 dd6 dd7 dd8 dd9 dd10 dd11 dd12 dd13 dd14 dd15 dd16 dd17 dd18 dd19 dd20
        simp only [Mono.putAll, Nat.reduceAdd, dd0, dd1, dd2, dd3, dd4, dd5, dd6, dd7, dd8, dd9, dd10, dd11, dd12, dd13, dd14, dd15, dd16, dd17, dd18, dd19, dd20, Act.put, List.setIfInBounds_toArray, List.set_cons_zero, List.set_cons_succ]
        clear dd0 dd1 dd2 dd3 dd4 dd5 dd6 dd7 dd8 dd9 dd10 dd11 dd12 dd13 dd14 dd15 dd16 dd17 dd18 dd19 dd20
        have HRW := Lib.hid (HR.out.below hR)
        have HBW2 := Lib.hid (HB.out.trans (hR.mono hz2))
        have HBI2 := Lib.hid hR
        obtain rfl := HO0.out
        clear hR huc
        have hA1 := (Below.refl W.heap.size W).alloc (Nat.le_refl _) (.cells #[] 36)
        have HRE := Lib.hid (Row.empty (e := 36) (size := 4) W (Nat.le_refl W.heap.size))
        have HTL := Lib.hid (show Sl (W.alloc (.cells #[] 36)) 0 4 (.slice none 0 0) (0 - 0) (lc pcC (([] : List Pc).drop 0)) from Sl.nil)

        have HONE : Hid (∀ u ∈ lc pcC (([] : List Pc).drop 0), u.oneCell' = true) := Lib.hid (pc_one _)
        have HA1 := Lib.hid hA1
        clear hA1
        go_wp2_with (at_builtin; refine append_row Try.underlying31 info_pp rfl (by decide) rfl _ _ rfl rfl HRE.out rfl HTL.out HONE.out ?_ ?_ ?_ ?_; omega; omega; (simp))
        intro v6 w6 hr6 hb6
        have HR6 : Hid (Row W.heap.size 36 4 w6 v6 (0 - 0) (lc pcC (([] : List Pc).drop 0))) := Lib.hid (by first | exact hr6 | simpa using hr6)
        have HB6 := Lib.hid (HA1.out.trans hb6)
        have HRW6 := Lib.hid (HRW.out.below HB6.out)
        have HZ6 := Lib.hid (show Below w.heap.size w w6 from HBW2.out.trans (HB6.out.mono HBW2.out.size))
        have hzw6 : w2.heap.size ≤ w6.heap.size := by have := HBI2.out.size; have := HB6.out.size; omega
        have kx6 := KX.out w6 (HBI2.out.trans (HB6.out.mono HBI2.out.size))
        have ku6 := KU.out w6 (HBI2.out.trans (HB6.out.mono HBI2.out.size))
        obtain ⟨kx60, kx61⟩ := kx6
        clear hr6 hb6 HRE HTL HA1
        go_wp2_with (fail)
        have hX : Below w6.heap.size w6 (w6.drew.alloc (.cells #[.int .i64 (x1 : Nat), .int .i64 (x2 : Nat), .int .i64 (o : Nat), .int .i64 (k : Nat)] 36)) := Below.alloc ((Below.refl _ w6).drew) (Nat.le_refl _) _
        have HX := Lib.hid hX
        clear hX
        obtain ⟨i0, hi, hz0, hz1, hz2⟩ := info_parts info_pp
        have HI := Lib.hid hi
        have HZ0 := Lib.hid hz0
        have HZ1 := Lib.hid hz1
        have HZ2 := Lib.hid hz2
        clear hi hz0 hz1 hz2
        have HNEW : Hid (∀ q' u, [Value.int .i64 (x1 : Nat), .int .i64 (x2 : Nat), .int .i64 (o : Nat), .int .i64 (k : Nat)][q']? = some u → (w6.drew.alloc (.cells #[.int .i64 (x1 : Nat), .int .i64 (x2 : Nat), .int .i64 (o : Nat), .int .i64 (k : Nat)] 36)).cell? (Addr.add ⟨w6.heap.size, 0, none⟩ q') = some u) := Lib.hid (fun q' u hq => by
          rw [add_plain, Nat.zero_add]
          show (w6.drew.alloc (.cells #[.int .i64 (x1 : Nat), .int .i64 (x2 : Nat), .int .i64 (o : Nat), .int .i64 (k : Nat)] 36)).cell? ⟨w6.drew.heap.size, q', none⟩ = some u
          rw [World.cell?_alloc_at _ _ _ _ rfl]
          simpa using hq)
        have HOLDS := Lib.hid (fun (b' : Addr) (hb : (none : Option Addr) = some b') (q' : Nat) (u : Value) (hq : (lc pcC (([] : List Pc).take 0))[q']? = some u) => ((by cases hb) : (w6.drew.alloc (.cells #[.int .i64 (x1 : Nat), .int .i64 (x2 : Nat), .int .i64 (o : Nat), .int .i64 (k : Nat)] 36)).cell? (b'.add q') = some u))
        have HNONE := Lib.hid (fun (h : (none : Option Addr) = none) => (⟨rfl, rfl⟩ : 0 = 0 ∧ 0 = 0))
        go_region_law (first
          | (refine step_append_row Try.underlying31 info_pp rfl (by decide) rfl (.tmp 66) (.tmp 67) rfl rfl HR8.out rfl HS8.out HONE.out (by omega) (by omega) hz9 ?_
             intro v9 w9 hr9 hb9 hg9
             have HR9 := Lib.hid hr9
             have HB9 := Lib.hid (HB8.out.trans hb9)
             clear hr9 hb9 hg9)
          | (refine step_append_grows rfl (.tmp 54) (.tmp 65) 31 rfl 36 i0 (.agg #[.int .i64 0, .int .i64 0, .int .i64 0, .int .i64 0]) 4 32 Try.underlying31 HI.out HZ0.out HZ1.out HZ2.out rfl (by decide) _ _ _ (lc pcC (([] : List Pc).take 0)) rfl HNONE.out (by rw [lc_len pcC_len, List.length_take, ← HLO.out, Nat.min_eq_left (by omega)]) HOLDS.out _ _ _ [Value.int .i64 (x1 : Nat), .int .i64 (x2 : Nat), .int .i64 (o : Nat), .int .i64 (k : Nat)] rfl rfl HNEW.out (by intro u hu; simp at hu; rcases hu with rfl | rfl | rfl | rfl <;> rfl) (by omega) (by unfold maxLen; omega) (by omega) ?_
             intro v8 w8 ho8 hg8
             have hb8 : Below (w6.drew.alloc (.cells #[.int .i64 (x1 : Nat), .int .i64 (x2 : Nat), .int .i64 (o : Nat), .int .i64 (k : Nat)] 36)).heap.size (w6.drew.alloc (.cells #[.int .i64 (x1 : Nat), .int .i64 (x2 : Nat), .int .i64 (o : Nat), .int .i64 (k : Nat)] 36)) w8 := (Below.refl _ _).grown hg8 (Nat.le_refl _) (fun _ h => by cases h)
             have hz8 : w6.heap.size ≤ (w6.drew.alloc (.cells #[.int .i64 (x1 : Nat), .int .i64 (x2 : Nat), .int .i64 (o : Nat), .int .i64 (k : Nat)] 36)).heap.size := HX.out.size
             have HB8 := Lib.hid (HX.out.trans (hb8.mono hz8))
             have hz9 : w6.heap.size ≤ w8.heap.size := HB8.out.size
             have HR8 : Hid (Row w6.heap.size 36 4 w8 v8 (0 + 1) (lc pcC (([] : List Pc).take 0) ++ [Value.int .i64 (x1 : Nat), .int .i64 (x2 : Nat), .int .i64 (o : Nat), .int .i64 (k : Nat)])) := Lib.hid (Row.mono ho8 hz8)
             have HS8 := Lib.hid ((HR6.out.below HB8.out).sl)
             clear ho8 hg8 hb8))
        all_goals
          have HFIN : Hid (Row w.heap.size 36 4 w9 v9 (S + (k + 1)) (lc pcC (insL (allP ls o ++ rowN o (ls o) (k + 1))))) := Lib.hid (by
            rw [rowN_app, ← List.append_assoc, insL_snoc, HXP.out, HOUT.out, ins_take (x := ⟨x1, x2, o, k⟩) (out := []) (n := 0) (Nat.zero_le _) (fun k hk => by omega) (.inl rfl), lc_app, lc_app, lc_one, show S + (k + 1) = 0 + 1 + (0 - 0) by have := HMS.out; omega]
            exact HR9.out.mono HZ6.out.size)
          have HBF := Lib.hid (HZ6.out.trans (HB9.out.mono HZ6.out.size))
          go_wp2_with (fail)
          go_roundw
          case rel => exact ⟨k + 1, rfl, hkm, HFIN, HBF⟩
          case measure => simp [intOf] <;> omega
      · go_wp2_with (fail)
        go_loopw [6] (fun x wr => ∃ q : Nat, x = .int .i64 q ∧ q ≤ M ∧ Hid (∀ k', k' < q → (atP out k').a < (⟨x1, x2, o, k⟩ : Pc).a) ∧ Hid (Below w2.heap.size w2 wr)) (fun x _ => M - (intOf x).toNat)
        case atStart => exact ⟨0, rfl, Nat.zero_le _, Lib.hid (fun k' hk' => by omega), Lib.hid (Below.refl _ _)⟩
        case round =>
          obtain ⟨q, rfl, hqm, HLT, HBI⟩ := hrel
          obtain ⟨w3, rfl⟩ : ∃ z : World, z = wr := ⟨_, rfl⟩
          have hz3 := HBI.out.size
          obtain ⟨KX2, KU2, KO2⟩ : Hid (∀ W, Below w3.heap.size w3 W → W.cell? ⟨xb, xo + k * 2, none⟩ = some (.int .i64 (x1 : Nat)) ∧ W.cell? ⟨xb, xo + k * 2 + 1, none⟩ = some (.int .i64 (x2 : Nat))) ∧ Hid (∀ W, Below w3.heap.size w3 W → W.cell? ⟨lb, lo + o, none⟩ = some (.slice (some ⟨xb, xo, none⟩) m uc)) ∧ Hid (q < M → ∀ W, Below w3.heap.size w3 W → W.cell? ⟨g, q * 4, none⟩ = some (.int .i64 ((atP out q).a : Nat))) :=
            ⟨Lib.hid (fun W hW => KX.out W (HBI.out.trans (hW.mono hz3))), Lib.hid (fun W hW => KU.out W (HBI.out.trans (hW.mono hz3))), Lib.hid (fun hq W hW => (pc_row (HR.out.below (HBI.out.trans (hW.mono hz3))) HLO.out (atP_get (by have := HLO.out; omega))).1)⟩
          by_cases hqM : q < M
          · have KO : Hid (∀ W, Below w3.heap.size w3 W → W.cell? ⟨g, q * 4, none⟩ = some (.int .i64 ((atP out q).a : Nat))) := Lib.hid (KO2.out hqM)
            have d5 : decide ((q : Int) < (M : Int)) = true := decide_eq_true (by omega)
            have d6 : decide (q < M) = true := decide_eq_true hqM
            have hqi : (q : Int) < (M : Int) := by omega
            have q3 : IntKind.i64.wrap ((q : Int) + 1) = (q : Int) + 1 := IntWalk.i64_in _ (by omega)
            by_cases hle : (atP out q).a < x1
            · as_aux_lemma =>
              have HLT2 : Hid (∀ k', k' < q + 1 → (atP out k').a < (⟨x1, x2, o, k⟩ : Pc).a) := Lib.hid (fun k' hk' => by
                by_cases e : k' = q
                · subst e; exact hle
                · exact HLT.out k' (by omega))
              have d7 : decide (((atP out q).a : Int) < (x1 : Int)) = true := decide_eq_true (by omega)
              have d8 : decide ((atP out q).a < x1) = true := decide_eq_true hle
              clear hle
              generalize (atP out q).a = y at *
              have KX := KX2
              have KU := KU2
              go_upto_region 9 with (fail)
              refine Mono.region_below (by kernel_rfl) (by kernel_rfl) (by kernel_rfl) ?_
              refine Mono.rgl_val (v := ?va0) rfl Mono.rr (fun ρ a W hR hd hf => ?ha0) ?_
              case ha0 =>
                have e6 := Mono.init_get hf (t := 6) (by kernel_rfl)
                clear hd hf
                (go_simp; try with_reducible rfl)
              refine Mono.rgl_val (v := ?va1) rfl Mono.rr (fun ρ a W hR hd hf => ?ha1) ?_
              case ha1 =>
                have e3 := Mono.init_get hf (t := 3) (by kernel_rfl)
                clear hd hf
                (go_simp; try with_reducible rfl)
              refine Mono.rgl_val (v := ?va2) rfl Mono.rr (fun ρ a W hR hd hf => ?ha2) ?_
              case ha2 =>
                have e24 := Mono.dep_val hd hf (t := 24) (k := 1) (by kernel_rfl) rfl
                clear hd hf
                (go_simp; try with_reducible rfl)
              refine Mono.rgl_val (v := ?va3) rfl Mono.rr (fun ρ a W hR hd hf => ?ha3) ?_
              case ha3 =>
                have e23 := Mono.dep_val hd hf (t := 23) (k := 0) (by kernel_rfl) rfl
                have e25 := Mono.dep_val hd hf (t := 25) (k := 2) (by kernel_rfl) rfl
                clear hd hf
                (go_simp; try with_reducible rfl)
              refine Mono.rgl_val (v := ?va4) rfl Mono.rr (fun ρ a W hR hd hf => ?ha4) ?_
              case ha4 =>
                have e26 := Mono.dep_val hd hf (t := 26) (k := 3) (by kernel_rfl) rfl
                clear hd hf
                (go_simp; try with_reducible rfl)
              refine Mono.rgl_valg (v := ?va5) rfl Mono.rr (fun ρ W hd => Mono.guard_val hd (t := 27) (k := 4) (by kernel_rfl) rfl) (fun ρ a W hR hd hf => ?ha5) ?_
              case ha5 =>
                have e3 := Mono.init_get hf (t := 3) (by kernel_rfl)
                clear hd hf
                (go_simp; try with_reducible rfl)
              refine Mono.rgl_valg (v := ?va6) rfl Mono.rr (fun ρ W hd => Mono.guard_val hd (t := 27) (k := 4) (by kernel_rfl) rfl) (fun ρ a W hR hd hf => ?ha6) ?_
              case ha6 =>
                have e6 := Mono.init_get hf (t := 6) (by kernel_rfl)
                clear hd hf
                (go_simp; try with_reducible rfl)
              refine Mono.rgl_valg (v := ?va7) rfl Mono.rr (fun ρ W hd => Mono.guard_val hd (t := 27) (k := 4) (by kernel_rfl) rfl) (fun ρ a W hR hd hf => ?ha7) ?_
              case ha7 =>
                have e28 := Mono.dep_val hd hf (t := 28) (k := 5) (by kernel_rfl) rfl
                have e29 := Mono.dep_val hd hf (t := 29) (k := 6) (by kernel_rfl) rfl
                clear hd hf
                (go_simp; try with_reducible rfl)
              refine Mono.rgl_valg (v := ?va8) rfl Mono.rr (fun ρ W hd => Mono.guard_val hd (t := 27) (k := 4) (by kernel_rfl) rfl) (fun ρ a W hR hd hf => ?ha8) ?_
              case ha8 =>
                have e30 := Mono.dep_val hd hf (t := 30) (k := 7) (by kernel_rfl) rfl
                clear hd hf
                (go_simp; try with_reducible rfl)
              refine Mono.rgl_valg (v := ?va9) rfl Mono.rr (fun ρ W hd => Mono.guard_val hd (t := 27) (k := 4) (by kernel_rfl) rfl) (fun ρ a W hR hd hf => ?ha9) ?_
              case ha9 =>
                have e31 := Mono.dep_val hd hf (t := 31) (k := 8) (by kernel_rfl) rfl
                clear hd hf
                (go_simp; try with_reducible rfl)
              refine Mono.rgl_valg (v := ?va10) rfl Mono.rr (fun ρ W hd => Mono.guard_val hd (t := 27) (k := 4) (by kernel_rfl) rfl) (fun ρ a W hR hd hf => ?ha10) ?_
              case ha10 =>
                have e32 := Mono.dep_val hd hf (t := 32) (k := 9) (by kernel_rfl) rfl
                have hk := (KO.out W hR)
                clear hd hf
                (go_simp; try with_reducible rfl)
              refine Mono.rgl_valg (v := ?va11) rfl Mono.rr (fun ρ W hd => Mono.guard_val hd (t := 27) (k := 4) (by kernel_rfl) rfl) (fun ρ a W hR hd hf => ?ha11) ?_
              case ha11 =>
                have e0 := Mono.init_get hf (t := 0) (by kernel_rfl)
                clear hd hf
                (go_simp; try with_reducible rfl)
              refine Mono.rgl_valg (v := ?va12) rfl Mono.rr (fun ρ W hd => Mono.guard_val hd (t := 27) (k := 4) (by kernel_rfl) rfl) (fun ρ a W hR hd hf => ?ha12) ?_
              case ha12 =>
                have e4 := Mono.init_get hf (t := 4) (by kernel_rfl)
                clear hd hf
                (go_simp; try with_reducible rfl)
              refine Mono.rgl_valg (v := ?va13) rfl Mono.rr (fun ρ W hd => Mono.guard_val hd (t := 27) (k := 4) (by kernel_rfl) rfl) (fun ρ a W hR hd hf => ?ha13) ?_
              case ha13 =>
                have e34 := Mono.dep_val hd hf (t := 34) (k := 11) (by kernel_rfl) rfl
                have e35 := Mono.dep_val hd hf (t := 35) (k := 12) (by kernel_rfl) rfl
                clear hd hf
                (go_simp; try with_reducible rfl)
              refine Mono.rgl_valg (v := ?va14) rfl Mono.rr (fun ρ W hd => Mono.guard_val hd (t := 27) (k := 4) (by kernel_rfl) rfl) (fun ρ a W hR hd hf => ?ha14) ?_
              case ha14 =>
                have e36 := Mono.dep_val hd hf (t := 36) (k := 13) (by kernel_rfl) rfl
                have hk := (KU.out W hR)
                clear hd hf
                (go_simp; try with_reducible rfl)
              refine Mono.rgl_valg (v := ?va15) rfl Mono.rr (fun ρ W hd => Mono.guard_val hd (t := 27) (k := 4) (by kernel_rfl) rfl) (fun ρ a W hR hd hf => ?ha15) ?_
              case ha15 =>
                have e5 := Mono.init_get hf (t := 5) (by kernel_rfl)
                clear hd hf
                (go_simp; try with_reducible rfl)
              refine Mono.rgl_valg (v := ?va16) rfl Mono.rr (fun ρ W hd => Mono.guard_val hd (t := 27) (k := 4) (by kernel_rfl) rfl) (fun ρ a W hR hd hf => ?ha16) ?_
              case ha16 =>
                have e37 := Mono.dep_val hd hf (t := 37) (k := 14) (by kernel_rfl) rfl
                have e38 := Mono.dep_val hd hf (t := 38) (k := 15) (by kernel_rfl) rfl
                clear hd hf
                (go_simp; try with_reducible rfl)
              refine Mono.rgl_valg (v := ?va17) rfl Mono.rr (fun ρ W hd => Mono.guard_val hd (t := 27) (k := 4) (by kernel_rfl) rfl) (fun ρ a W hR hd hf => ?ha17) ?_
              case ha17 =>
                have e39 := Mono.dep_val hd hf (t := 39) (k := 16) (by kernel_rfl) rfl
                clear hd hf
                (go_simp; try with_reducible rfl)
              refine Mono.rgl_valg (v := ?va18) rfl Mono.rr (fun ρ W hd => Mono.guard_val hd (t := 27) (k := 4) (by kernel_rfl) rfl) (fun ρ a W hR hd hf => ?ha18) ?_
              case ha18 =>
                have e40 := Mono.dep_val hd hf (t := 40) (k := 17) (by kernel_rfl) rfl
                have hk := (KX.out W hR).1
                clear hd hf
                (go_simp; try with_reducible rfl)
              refine Mono.rgl_valg (v := ?va19) rfl Mono.rr (fun ρ W hd => Mono.guard_val hd (t := 27) (k := 4) (by kernel_rfl) rfl) (fun ρ a W hR hd hf => ?ha19) ?_
              case ha19 =>
                have e33 := Mono.dep_val hd hf (t := 33) (k := 10) (by kernel_rfl) rfl
                have e41 := Mono.dep_val hd hf (t := 41) (k := 18) (by kernel_rfl) rfl
                clear hd hf
                (go_simp; try with_reducible rfl)
              refine Mono.rgl_val (v := ?va20) rfl Mono.rr (fun ρ a W hR hd hf => ?ha20) ?_
              case ha20 =>
                have e27 := Mono.dep_val hd hf (t := 27) (k := 4) (by kernel_rfl) rfl
                have e42 := Mono.dep_val hd hf (t := 42) (k := 19) (by kernel_rfl) rfl
                clear hd hf
                (go_simp; try with_reducible rfl)
              refine Mono.rgl_done rfl (fun ρ W hR ht => ?_)
              obtain ⟨da20, da19, da18, da17, da16, da15, da14, da13, da12, da11, da10, da9, da8, da7, da6, da5, da4, da3, da2, da1, da0, _⟩ := ht
              simp only [List.length_cons, List.length_nil, Nat.reduceAdd] at da0 da1 da2 da3 da4 da5 da6 da7 da8 da9 da10 da11 da12 da13 da14 da15 da16 da17 da18 da19 da20
              simp only [Mono.putAll, Nat.reduceAdd, da0, da1, da2, da3, da4, da5, da6, da7, da8, da9, da10, da11, da12, da13, da14, da15, da16, da17, da18, da19, da20, Act.put, List.setIfInBounds_toArray, List.set_cons_zero, List.set_cons_succ]
              clear da0 da1 da2 da3 da4 da5 da6 da7 da8 da9 da10 da11 da12 da13 da14 da15 da16 da17 da18 da19 da20
              have HBI := Lib.hid (HBI.out.trans (hR.mono hz3))
              clear hR
              go_wp2_with (fail)
              go_roundw
              case rel => exact ⟨q + 1, rfl, by omega, HLT2, HBI⟩
              case measure => simp [intOf] <;> omega
            · as_aux_lemma =>
              have HHI : Hid (q = out.length ∨ ¬ (atP out q).a < (⟨x1, x2, o, k⟩ : Pc).a) := Lib.hid (.inr hle)
              have d7 : decide (((atP out q).a : Int) < (x1 : Int)) = false := decide_eq_false (by omega)
              have d8 : decide ((atP out q).a < x1) = false := decide_eq_false hle
              clear hle
              obtain ⟨y, hy⟩ : ∃ z, (atP out q).a = z := ⟨_, rfl⟩
              rw [hy] at d7 d8 KO
              clear hy
              obtain ⟨KX0, KU0⟩ : Hid (∀ W, Below w2.heap.size w2 W → W.cell? ⟨xb, xo + k * 2, none⟩ = some (.int .i64 (x1 : Nat)) ∧ W.cell? ⟨xb, xo + k * 2 + 1, none⟩ = some (.int .i64 (x2 : Nat))) ∧ Hid (∀ W, Below w2.heap.size w2 W → W.cell? ⟨lb, lo + o, none⟩ = some (.slice (some ⟨xb, xo, none⟩) m uc)) := ⟨KX, KU⟩
              clear KX KU
              have KX := KX2
              have KU := KU2
              go_upto_region 9 with (fail)
              refine Mono.region_below (by kernel_rfl) (by kernel_rfl) (by kernel_rfl) ?_
              refine Mono.rgl_val (v := ?vb0) rfl Mono.rr (fun ρ a W hR hd hf => ?hb0) ?_
              case hb0 =>
                have e6 := Mono.init_get hf (t := 6) (by kernel_rfl)
                clear hd hf
                (go_simp; try with_reducible rfl)
              refine Mono.rgl_val (v := ?vb1) rfl Mono.rr (fun ρ a W hR hd hf => ?hb1) ?_
              case hb1 =>
                have e3 := Mono.init_get hf (t := 3) (by kernel_rfl)
                clear hd hf
                (go_simp; try with_reducible rfl)
              refine Mono.rgl_val (v := ?vb2) rfl Mono.rr (fun ρ a W hR hd hf => ?hb2) ?_
              case hb2 =>
                have e24 := Mono.dep_val hd hf (t := 24) (k := 1) (by kernel_rfl) rfl
                clear hd hf
                (go_simp; try with_reducible rfl)
              refine Mono.rgl_val (v := ?vb3) rfl Mono.rr (fun ρ a W hR hd hf => ?hb3) ?_
              case hb3 =>
                have e23 := Mono.dep_val hd hf (t := 23) (k := 0) (by kernel_rfl) rfl
                have e25 := Mono.dep_val hd hf (t := 25) (k := 2) (by kernel_rfl) rfl
                clear hd hf
                (go_simp; try with_reducible rfl)
              refine Mono.rgl_val (v := ?vb4) rfl Mono.rr (fun ρ a W hR hd hf => ?hb4) ?_
              case hb4 =>
                have e26 := Mono.dep_val hd hf (t := 26) (k := 3) (by kernel_rfl) rfl
                clear hd hf
                (go_simp; try with_reducible rfl)
              refine Mono.rgl_valg (v := ?vb5) rfl Mono.rr (fun ρ W hd => Mono.guard_val hd (t := 27) (k := 4) (by kernel_rfl) rfl) (fun ρ a W hR hd hf => ?hb5) ?_
              case hb5 =>
                have e3 := Mono.init_get hf (t := 3) (by kernel_rfl)
                clear hd hf
                (go_simp; try with_reducible rfl)
              refine Mono.rgl_valg (v := ?vb6) rfl Mono.rr (fun ρ W hd => Mono.guard_val hd (t := 27) (k := 4) (by kernel_rfl) rfl) (fun ρ a W hR hd hf => ?hb6) ?_
              case hb6 =>
                have e6 := Mono.init_get hf (t := 6) (by kernel_rfl)
                clear hd hf
                (go_simp; try with_reducible rfl)
              refine Mono.rgl_valg (v := ?vb7) rfl Mono.rr (fun ρ W hd => Mono.guard_val hd (t := 27) (k := 4) (by kernel_rfl) rfl) (fun ρ a W hR hd hf => ?hb7) ?_
              case hb7 =>
                have e28 := Mono.dep_val hd hf (t := 28) (k := 5) (by kernel_rfl) rfl
                have e29 := Mono.dep_val hd hf (t := 29) (k := 6) (by kernel_rfl) rfl
                clear hd hf
                (go_simp; try with_reducible rfl)
              refine Mono.rgl_valg (v := ?vb8) rfl Mono.rr (fun ρ W hd => Mono.guard_val hd (t := 27) (k := 4) (by kernel_rfl) rfl) (fun ρ a W hR hd hf => ?hb8) ?_
              case hb8 =>
                have e30 := Mono.dep_val hd hf (t := 30) (k := 7) (by kernel_rfl) rfl
                clear hd hf
                (go_simp; try with_reducible rfl)
              refine Mono.rgl_valg (v := ?vb9) rfl Mono.rr (fun ρ W hd => Mono.guard_val hd (t := 27) (k := 4) (by kernel_rfl) rfl) (fun ρ a W hR hd hf => ?hb9) ?_
              case hb9 =>
                have e31 := Mono.dep_val hd hf (t := 31) (k := 8) (by kernel_rfl) rfl
                clear hd hf
                (go_simp; try with_reducible rfl)
              refine Mono.rgl_valg (v := ?vb10) rfl Mono.rr (fun ρ W hd => Mono.guard_val hd (t := 27) (k := 4) (by kernel_rfl) rfl) (fun ρ a W hR hd hf => ?hb10) ?_
              case hb10 =>
                have e32 := Mono.dep_val hd hf (t := 32) (k := 9) (by kernel_rfl) rfl
                have hk := (KO.out W hR)
                clear hd hf
                (go_simp; try with_reducible rfl)
              refine Mono.rgl_valg (v := ?vb11) rfl Mono.rr (fun ρ W hd => Mono.guard_val hd (t := 27) (k := 4) (by kernel_rfl) rfl) (fun ρ a W hR hd hf => ?hb11) ?_
              case hb11 =>
                have e0 := Mono.init_get hf (t := 0) (by kernel_rfl)
                clear hd hf
                (go_simp; try with_reducible rfl)
              refine Mono.rgl_valg (v := ?vb12) rfl Mono.rr (fun ρ W hd => Mono.guard_val hd (t := 27) (k := 4) (by kernel_rfl) rfl) (fun ρ a W hR hd hf => ?hb12) ?_
              case hb12 =>
                have e4 := Mono.init_get hf (t := 4) (by kernel_rfl)
                clear hd hf
                (go_simp; try with_reducible rfl)
              refine Mono.rgl_valg (v := ?vb13) rfl Mono.rr (fun ρ W hd => Mono.guard_val hd (t := 27) (k := 4) (by kernel_rfl) rfl) (fun ρ a W hR hd hf => ?hb13) ?_
              case hb13 =>
                have e34 := Mono.dep_val hd hf (t := 34) (k := 11) (by kernel_rfl) rfl
                have e35 := Mono.dep_val hd hf (t := 35) (k := 12) (by kernel_rfl) rfl
                clear hd hf
                (go_simp; try with_reducible rfl)
              refine Mono.rgl_valg (v := ?vb14) rfl Mono.rr (fun ρ W hd => Mono.guard_val hd (t := 27) (k := 4) (by kernel_rfl) rfl) (fun ρ a W hR hd hf => ?hb14) ?_
              case hb14 =>
                have e36 := Mono.dep_val hd hf (t := 36) (k := 13) (by kernel_rfl) rfl
                have hk := (KU.out W hR)
                clear hd hf
                (go_simp; try with_reducible rfl)
              refine Mono.rgl_valg (v := ?vb15) rfl Mono.rr (fun ρ W hd => Mono.guard_val hd (t := 27) (k := 4) (by kernel_rfl) rfl) (fun ρ a W hR hd hf => ?hb15) ?_
              case hb15 =>
                have e5 := Mono.init_get hf (t := 5) (by kernel_rfl)
                clear hd hf
                (go_simp; try with_reducible rfl)
              refine Mono.rgl_valg (v := ?vb16) rfl Mono.rr (fun ρ W hd => Mono.guard_val hd (t := 27) (k := 4) (by kernel_rfl) rfl) (fun ρ a W hR hd hf => ?hb16) ?_
              case hb16 =>
                have e37 := Mono.dep_val hd hf (t := 37) (k := 14) (by kernel_rfl) rfl
                have e38 := Mono.dep_val hd hf (t := 38) (k := 15) (by kernel_rfl) rfl
                clear hd hf
                (go_simp; try with_reducible rfl)
              refine Mono.rgl_valg (v := ?vb17) rfl Mono.rr (fun ρ W hd => Mono.guard_val hd (t := 27) (k := 4) (by kernel_rfl) rfl) (fun ρ a W hR hd hf => ?hb17) ?_
              case hb17 =>
                have e39 := Mono.dep_val hd hf (t := 39) (k := 16) (by kernel_rfl) rfl
                clear hd hf
                (go_simp; try with_reducible rfl)
              refine Mono.rgl_valg (v := ?vb18) rfl Mono.rr (fun ρ W hd => Mono.guard_val hd (t := 27) (k := 4) (by kernel_rfl) rfl) (fun ρ a W hR hd hf => ?hb18) ?_
              case hb18 =>
                have e40 := Mono.dep_val hd hf (t := 40) (k := 17) (by kernel_rfl) rfl
                have hk := (KX.out W hR).1
                clear hd hf
                (go_simp; try with_reducible rfl)
              refine Mono.rgl_valg (v := ?vb19) rfl Mono.rr (fun ρ W hd => Mono.guard_val hd (t := 27) (k := 4) (by kernel_rfl) rfl) (fun ρ a W hR hd hf => ?hb19) ?_
              case hb19 =>
                have e33 := Mono.dep_val hd hf (t := 33) (k := 10) (by kernel_rfl) rfl
                have e41 := Mono.dep_val hd hf (t := 41) (k := 18) (by kernel_rfl) rfl
                clear hd hf
                (go_simp; try with_reducible rfl)
              refine Mono.rgl_val (v := ?vb20) rfl Mono.rr (fun ρ a W hR hd hf => ?hb20) ?_
              case hb20 =>
                have e27 := Mono.dep_val hd hf (t := 27) (k := 4) (by kernel_rfl) rfl
                have e42 := Mono.dep_val hd hf (t := 42) (k := 19) (by kernel_rfl) rfl
                clear hd hf
                (go_simp; try with_reducible rfl)
              refine Mono.rgl_done rfl (fun ρ W hR ht => ?_)
              obtain ⟨db20, db19, db18, db17, db16, db15, db14, db13, db12, db11, db10, db9, db8, db7, db6, db5, db4, db3, db2, db1, db0, _⟩ := ht
              simp only [List.length_cons, List.length_nil, Nat.reduceAdd] at db0 db1 db2 db3 db4 db5 db6 db7 db8 db9 db10 db11 db12 db13 db14 db15 db16 db17 db18 db19 db20
              simp only [Mono.putAll, Nat.reduceAdd, db0, db1, db2, db3, db4, db5, db6, db7, db8, db9, db10, db11, db12, db13, db14, db15, db16, db17, db18, db19, db20, Act.put, List.setIfInBounds_toArray, List.set_cons_zero, List.set_cons_succ]
              clear db0 db1 db2 db3 db4 db5 db6 db7 db8 db9 db10 db11 db12 db13 db14 db15 db16 db17 db18 db19 db20
              clear KX KU
              have KX := KX0
              have KU := KU0
              have HBI2 := Lib.hid (HBI.out.trans (hR.mono hz3))
              have HRW := Lib.hid (HR.out.below HBI2.out)
              have HBW2 := Lib.hid (HB.out.trans (HBI2.out.mono hz2))
              clear hR huc
              have hA1 := (Below.refl W.heap.size W).alloc (Nat.le_refl _) (.cells #[] 36)
              have HRE := Lib.hid (Row.empty (e := 36) (size := 4) W (Nat.le_refl W.heap.size))
              have HTL := Lib.hid ((by have := sl_tail4 ((HRW.out.below hA1).sl) HLO.out hqm; rwa [if_neg (show ¬ gc = q by omega)] at this : Sl _ _ 4 (.slice (some ⟨g, q * 4, none⟩) (M - q) (gc - q)) (M - q) (lc pcC (out.drop q))))
              have hb0 : (0 : Int) ≤ (q : Int) := by omega
              have hb1 : (q : Int) ≤ (gc : Int) := by omega
              have HONE : Hid (∀ u ∈ lc pcC (out.drop q), u.oneCell' = true) := Lib.hid (pc_one _)
              have HA1 := Lib.hid hA1
              clear hA1
              go_wp2_with (at_builtin; refine append_row Try.underlying31 info_pp rfl (by decide) rfl _ _ rfl rfl HRE.out rfl HTL.out HONE.out ?_ ?_ ?_ ?_; omega; omega; (simp))
              intro v6 w6 hr6 hb6
              have HR6 : Hid (Row W.heap.size 36 4 w6 v6 (M - q) (lc pcC (out.drop q))) := Lib.hid (by first | exact hr6 | simpa using hr6)
              have HB6 := Lib.hid (HA1.out.trans hb6)
              have HRW6 := Lib.hid (HRW.out.below HB6.out)
              have HZ6 := Lib.hid (show Below w.heap.size w w6 from HBW2.out.trans (HB6.out.mono HBW2.out.size))
              have hzw6 : w2.heap.size ≤ w6.heap.size := by have := HBI2.out.size; have := HB6.out.size; omega
              have KX6 := Lib.hid (fun (W : World) (hW : Below w6.heap.size w6 W) => KX.out W ((HBI2.out.trans (HB6.out.mono HBI2.out.size)).trans (hW.mono hzw6)))
              have KU6 := Lib.hid (fun (W : World) (hW : Below w6.heap.size w6 W) => KU.out W ((HBI2.out.trans (HB6.out.mono HBI2.out.size)).trans (hW.mono hzw6)))
              clear hr6 hb6 HRE HTL HA1
              obtain ⟨i0, hi, hz0, hz1, hz2⟩ := info_parts info_pp
              have HI := Lib.hid hi
              have HZ0 := Lib.hid hz0
              have HZ1 := Lib.hid hz1
              have HZ2 := Lib.hid hz2
              clear hi hz0 hz1 hz2
              have HTK : Hid ((lc pcC (out.take q)).length = q * 4) := Lib.hid (by rw [lc_len pcC_len, List.length_take, ← HLO.out, Nat.min_eq_left (by omega)])
              have HOL : Hid (∀ W, Below w6.heap.size w6 W → ∀ (b : Addr), some (⟨g, 0, none⟩ : Addr) = some b → ∀ (j : Nat) (u : Value), (lc pcC (out.take q))[j]? = some u → W.cell? (b.add j) = some u) := Lib.hid (fun W hW b hb j u hq => by
                cases hb
                rw [add_plain]
                rw [← lc_take pcC_len, List.getElem?_take] at hq
                split at hq
                · exact sl_same ((HRW6.out.below hW).sl) (by omega) _ _ hq
                · cases hq)
              go_upto_region 12 with (fail)
              refine Mono.region_tail 17 (by kernel_rfl) (by kernel_rfl) (by kernel_rfl) (by kernel_rfl) ?_
              simp only [List.take_succ_cons, List.take_zero]
              refine Mono.hgl_val (v := ?vs0) rfl Mono.rr (fun ρ a W hR hd hf => ?hs0) ?_
              case hs0 =>
                have e3 := Mono.init_get hf (t := 3) (by kernel_rfl)
                clear hd hf
                (go_simp; try with_reducible rfl)
              refine Mono.hgl_val (v := ?vs1) rfl Mono.rr (fun ρ a W hR hd hf => ?hs1) ?_
              case hs1 =>
                have e6 := Mono.init_get hf (t := 6) (by kernel_rfl)
                clear hd hf
                (go_simp; try with_reducible rfl)
              refine Mono.hgl_val (v := ?vs2) rfl Mono.rr (fun ρ a W hR hd hf => ?hs2) ?_
              case hs2 =>
                have e6 := Mono.init_get hf (t := 6) (by kernel_rfl)
                clear hd hf
                (go_simp; try with_reducible rfl)
              refine Mono.hgl_val (v := ?vs3) rfl Mono.rr (fun ρ a W hR hd hf => ?hs3) ?_
              case hs3 =>
                have e51 := Mono.dep_val hd hf (t := 51) (k := 0) (by kernel_rfl) rfl
                have e52 := Mono.dep_val hd hf (t := 52) (k := 1) (by kernel_rfl) rfl
                have e53 := Mono.dep_val hd hf (t := 53) (k := 2) (by kernel_rfl) rfl
                clear hd hf
                (go_simp; try with_reducible rfl)
              refine Mono.hgl_val (v := ?vs4) rfl Mono.rr (fun ρ a W hR hd hf => ?hs4) ?_
              case hs4 =>
                have e0 := Mono.init_get hf (t := 0) (by kernel_rfl)
                clear hd hf
                (go_simp; try with_reducible rfl)
              refine Mono.hgl_val (v := ?vs5) rfl Mono.rr (fun ρ a W hR hd hf => ?hs5) ?_
              case hs5 =>
                have e4 := Mono.init_get hf (t := 4) (by kernel_rfl)
                clear hd hf
                (go_simp; try with_reducible rfl)
              refine Mono.hgl_val (v := ?vs6) rfl Mono.rr (fun ρ a W hR hd hf => ?hs6) ?_
              case hs6 =>
                have e55 := Mono.dep_val hd hf (t := 55) (k := 4) (by kernel_rfl) rfl
                have e56 := Mono.dep_val hd hf (t := 56) (k := 5) (by kernel_rfl) rfl
                clear hd hf
                (go_simp; try with_reducible rfl)
              refine Mono.hgl_val (v := ?vs7) rfl Mono.rr (fun ρ a W hR hd hf => ?hs7) ?_
              case hs7 =>
                have e57 := Mono.dep_val hd hf (t := 57) (k := 6) (by kernel_rfl) rfl
                have hk := KU6.out W hR
                clear hd hf
                (go_simp; try with_reducible rfl)
              refine Mono.hgl_val (v := ?vs8) rfl Mono.rr (fun ρ a W hR hd hf => ?hs8) ?_
              case hs8 =>
                have e5 := Mono.init_get hf (t := 5) (by kernel_rfl)
                clear hd hf
                (go_simp; try with_reducible rfl)
              refine Mono.hgl_val (v := ?vs9) rfl Mono.rr (fun ρ a W hR hd hf => ?hs9) ?_
              case hs9 =>
                have e58 := Mono.dep_val hd hf (t := 58) (k := 7) (by kernel_rfl) rfl
                have e59 := Mono.dep_val hd hf (t := 59) (k := 8) (by kernel_rfl) rfl
                clear hd hf
                (go_simp; try with_reducible rfl)
              refine Mono.hgl_val (v := ?vs10) rfl Mono.rr (fun ρ a W hR hd hf => ?hs10) ?_
              case hs10 =>
                have e60 := Mono.dep_val hd hf (t := 60) (k := 9) (by kernel_rfl) rfl
                obtain ⟨hk, hk2⟩ := KX6.out W hR
                clear hd hf
                (go_simp; try with_reducible rfl)
              refine Mono.hgl_val (v := ?vs11) rfl Mono.rr (fun ρ a W hR hd hf => ?hs11) ?_
              case hs11 =>
                have e4 := Mono.init_get hf (t := 4) (by kernel_rfl)
                clear hd hf
                (go_simp; try with_reducible rfl)
              refine Mono.hgl_val (v := ?vs12) rfl Mono.rr (fun ρ a W hR hd hf => ?hs12) ?_
              case hs12 =>
                have e5 := Mono.init_get hf (t := 5) (by kernel_rfl)
                clear hd hf
                (go_simp; try with_reducible rfl)
              refine Mono.hgl_val (v := ?vs13) rfl Mono.rr (fun ρ a W hR hd hf => ?hs13) ?_
              case hs13 =>
                have e61 := Mono.dep_val hd hf (t := 61) (k := 10) (by kernel_rfl) rfl
                have e62 := Mono.dep_val hd hf (t := 62) (k := 11) (by kernel_rfl) rfl
                have e63 := Mono.dep_val hd hf (t := 63) (k := 12) (by kernel_rfl) rfl
                clear hd hf
                (go_simp; try with_reducible rfl)
              refine Mono.hgl_pred (fun z W => Sl W W.heap.size 4 z 1 [Value.int .i64 (x1 : Nat), .int .i64 (x2 : Nat), .int .i64 (o : Nat), .int .i64 (k : Nat)]) rfl hstSl (fun ρ a W hR hd hf => ?hs14) ?_
              case hs14 =>
                have e64 := Mono.dep_val hd hf (t := 64) (k := 13) (by kernel_rfl) rfl
                clear hd hf
                exact ⟨_, _, by go_simp, (Below.refl _ _).alloc (Nat.le_refl _) _, (Sl.new W 4 1 [Value.int .i64 (x1 : Nat), .int .i64 (x2 : Nat), .int .i64 (o : Nat), .int .i64 (k : Nat)] 36 rfl).mono (by simp)⟩
              refine Mono.hgl_pred (fun z W => Row w6.heap.size 36 4 W z (q + 1) (lc pcC (out.take q) ++ [Value.int .i64 (x1 : Nat), .int .i64 (x2 : Nat), .int .i64 (o : Nat), .int .i64 (k : Nat)])) rfl hstRow (fun ρ a W hR hd hf => ?hs15) ?_
              case hs15 =>
                have e54 := Mono.dep_val hd hf (t := 54) (k := 3) (by kernel_rfl) rfl
                obtain ⟨e65, d14⟩ := Mono.dep_get hd hf (t := 65) (k := 14) (by kernel_rfl)
                replace d14 : (fun z W => Sl W W.heap.size 4 z 1 [Value.int .i64 (x1 : Nat), .int .i64 (x2 : Nat), .int .i64 (o : Nat), .int .i64 (k : Nat)]) (ρ 14) W := d14
                clear hd hf
                exact mono_append_grows Try.underlying31 HI.out HZ0.out HZ1.out HZ2.out rfl (by decide) (.tmp 54) (.tmp 65) rfl (by rw [eval_tmp e54]) (fun h => by cases h) HTK.out (HOL.out W hR) (by rw [eval_tmp e65]) d14 (by intro u hu; simp at hu; rcases hu with rfl | rfl | rfl | rfl <;> rfl) (by omega) (by unfold maxLen; omega) (by omega) hR.size
              refine Mono.hgl_val (v := ?vs16) rfl Mono.rr (fun ρ a W hR hd hf => ?hs16) ?_
              case hs16 =>
                have e7 := Mono.init_get hf (t := 7) (by kernel_rfl)
                clear hd hf
                (go_simp; try with_reducible rfl)
              refine Mono.hgl_done rfl (by decide) (fun ρ W hR ht => ?_)
              simp only [List.take_succ_cons, List.take_zero, List.drop_succ_cons, List.drop_zero]
              obtain ⟨ds16, ds15, ds14, ds13, ds12, ds11, ds10, ds9, ds8, ds7, ds6, ds5, ds4, ds3, ds2, ds1, ds0, _⟩ := ht
              replace ds14 : (fun z W => Sl W W.heap.size 4 z 1 [Value.int .i64 (x1 : Nat), .int .i64 (x2 : Nat), .int .i64 (o : Nat), .int .i64 (k : Nat)]) (ρ 14) W := ds14
              replace ds15 : (fun z W => Row w6.heap.size 36 4 W z (q + 1) (lc pcC (out.take q) ++ [Value.int .i64 (x1 : Nat), .int .i64 (x2 : Nat), .int .i64 (o : Nat), .int .i64 (k : Nat)])) (ρ 15) W := ds15
              simp only [List.length_cons, List.length_nil, Nat.reduceAdd] at ds0 ds1 ds2 ds3 ds4 ds5 ds6 ds7 ds8 ds9 ds10 ds11 ds12 ds13 ds16
              simp only [Mono.putAll, Nat.reduceAdd, ds0, ds1, ds2, ds3, ds4, ds5, ds6, ds7, ds8, ds9, ds10, ds11, ds12, ds13, ds16, Act.put, List.setIfInBounds_toArray, List.set_cons_zero, List.set_cons_succ]
              clear ds0 ds1 ds2 ds3 ds4 ds5 ds6 ds7 ds8 ds9 ds10 ds11 ds12 ds13 ds16
              generalize ρ 14 = rs14 at *
              generalize ρ 15 = rs15 at *
              have HR8 := Lib.hid ds15
              have HB8 := Lib.hid hR
              have HS8 := Lib.hid ((HR6.out.below HB8.out).sl)
              have hz9 : w6.heap.size ≤ W.heap.size := hR.size
              clear hR ds14 ds15
              go_wp2_with (at_builtin; refine append_row (base := w6.heap.size) (size := 4) Try.underlying31 info_pp rfl (by decide) rfl _ _ rfl rfl HR8.out rfl HS8.out HONE.out ?_ ?_ ?_ ?_; omega; omega; exact hz9)
              intro v9 w9 hr9 hb9
              have HR9 := Lib.hid hr9
              have HB9 := Lib.hid (HB8.out.trans hb9)
              clear hr9 hb9
              have HFIN : Hid (Row w.heap.size 36 4 w9 v9 (S + (k + 1)) (lc pcC (insL (allP ls o ++ rowN o (ls o) (k + 1))))) := Lib.hid (by
                rw [rowN_app, ← List.append_assoc, insL_snoc, HXP.out, HOUT.out, ins_take (x := ⟨x1, x2, o, k⟩) (n := q) (by rw [← HLO.out]; exact hqm) HLT.out HHI.out, lc_app, lc_app, lc_one, show S + (k + 1) = q + 1 + (M - q) by have := HMS.out; omega]
                rw [List.append_assoc]
                exact HR9.out.mono HZ6.out.size)
              have HBF := Lib.hid (HZ6.out.trans (HB9.out.mono HZ6.out.size))
              go_wp2_with (fail)
              go_roundw
              case rel => exact ⟨k + 1, rfl, hkm, HFIN, HBF⟩
              case measure => simp [intOf] <;> omega
          · as_aux_lemma =>
            have hq0 : q = M := by omega
            have HHI : Hid (q = out.length ∨ ¬ (atP out q).a < (⟨x1, x2, o, k⟩ : Pc).a) := Lib.hid (.inl (by rw [hq0]; exact HLO.out))
            have d5 : decide ((q : Int) < (M : Int)) = false := decide_eq_false (by omega)
            have d6 : decide (q < M) = false := decide_eq_false hqM
            have HQ0 := Lib.hid hq0
            clear hq0
            go_upto_region 9 with (fail)
            refine Mono.region_below (by kernel_rfl) (by kernel_rfl) (by kernel_rfl) ?_
            refine Mono.rgl_val (v := ?vc0) rfl Mono.rr (fun ρ a W hR hd hf => ?hc0) ?_
            case hc0 =>
              have e6 := Mono.init_get hf (t := 6) (by kernel_rfl)
              clear hd hf
              (go_simp; try with_reducible rfl)
            refine Mono.rgl_val (v := ?vc1) rfl Mono.rr (fun ρ a W hR hd hf => ?hc1) ?_
            case hc1 =>
              have e3 := Mono.init_get hf (t := 3) (by kernel_rfl)
              clear hd hf
              (go_simp; try with_reducible rfl)
            refine Mono.rgl_val (v := ?vc2) rfl Mono.rr (fun ρ a W hR hd hf => ?hc2) ?_
            case hc2 =>
              have e24 := Mono.dep_val hd hf (t := 24) (k := 1) (by kernel_rfl) rfl
              clear hd hf
              (go_simp; try with_reducible rfl)
            refine Mono.rgl_val (v := ?vc3) rfl Mono.rr (fun ρ a W hR hd hf => ?hc3) ?_
            case hc3 =>
              have e23 := Mono.dep_val hd hf (t := 23) (k := 0) (by kernel_rfl) rfl
              have e25 := Mono.dep_val hd hf (t := 25) (k := 2) (by kernel_rfl) rfl
              clear hd hf
              (go_simp; try with_reducible rfl)
            refine Mono.rgl_val (v := ?vc4) rfl Mono.rr (fun ρ a W hR hd hf => ?hc4) ?_
            case hc4 =>
              have e26 := Mono.dep_val hd hf (t := 26) (k := 3) (by kernel_rfl) rfl
              clear hd hf
              (go_simp; try with_reducible rfl)
            refine Mono.rgl_skip rfl (by decide) (fun ρ W hd => Mono.guard_val hd (t := 27) (k := 4) (by kernel_rfl) rfl) ?_
            refine Mono.rgl_skip rfl (by decide) (fun ρ W hd => Mono.guard_val hd (t := 27) (k := 4) (by kernel_rfl) rfl) ?_
            refine Mono.rgl_skip rfl (by decide) (fun ρ W hd => Mono.guard_val hd (t := 27) (k := 4) (by kernel_rfl) rfl) ?_
            refine Mono.rgl_skip rfl (by decide) (fun ρ W hd => Mono.guard_val hd (t := 27) (k := 4) (by kernel_rfl) rfl) ?_
            refine Mono.rgl_skip rfl (by decide) (fun ρ W hd => Mono.guard_val hd (t := 27) (k := 4) (by kernel_rfl) rfl) ?_
            refine Mono.rgl_skip rfl (by decide) (fun ρ W hd => Mono.guard_val hd (t := 27) (k := 4) (by kernel_rfl) rfl) ?_
            refine Mono.rgl_skip rfl (by decide) (fun ρ W hd => Mono.guard_val hd (t := 27) (k := 4) (by kernel_rfl) rfl) ?_
            refine Mono.rgl_skip rfl (by decide) (fun ρ W hd => Mono.guard_val hd (t := 27) (k := 4) (by kernel_rfl) rfl) ?_
            refine Mono.rgl_skip rfl (by decide) (fun ρ W hd => Mono.guard_val hd (t := 27) (k := 4) (by kernel_rfl) rfl) ?_
            refine Mono.rgl_skip rfl (by decide) (fun ρ W hd => Mono.guard_val hd (t := 27) (k := 4) (by kernel_rfl) rfl) ?_
            refine Mono.rgl_skip rfl (by decide) (fun ρ W hd => Mono.guard_val hd (t := 27) (k := 4) (by kernel_rfl) rfl) ?_
            refine Mono.rgl_skip rfl (by decide) (fun ρ W hd => Mono.guard_val hd (t := 27) (k := 4) (by kernel_rfl) rfl) ?_
            refine Mono.rgl_skip rfl (by decide) (fun ρ W hd => Mono.guard_val hd (t := 27) (k := 4) (by kernel_rfl) rfl) ?_
            refine Mono.rgl_skip rfl (by decide) (fun ρ W hd => Mono.guard_val hd (t := 27) (k := 4) (by kernel_rfl) rfl) ?_
            refine Mono.rgl_skip rfl (by decide) (fun ρ W hd => Mono.guard_val hd (t := 27) (k := 4) (by kernel_rfl) rfl) ?_
            refine Mono.rgl_val (v := ?vc20) rfl Mono.rr (fun ρ a W hR hd hf => ?hc20) ?_
            case hc20 =>
              have e27 := Mono.dep_val hd hf (t := 27) (k := 4) (by kernel_rfl) rfl
              have e42 := Mono.dep_val hd hf (t := 42) (k := 19) (by kernel_rfl) rfl
              clear hd hf
              (go_simp; try with_reducible rfl)
            refine Mono.rgl_done rfl (fun ρ W hR ht => ?_)
            obtain ⟨dc20, dc19, dc18, dc17, dc16, dc15, dc14, dc13, dc12, dc11, dc10, dc9, dc8, dc7, dc6, dc5, dc4, dc3, dc2, dc1, dc0, _⟩ := ht
            simp only [List.length_cons, List.length_nil, Nat.reduceAdd] at dc0 dc1 dc2 dc3 dc4 dc5 dc6 dc7 dc8 dc9 dc10 dc11 dc12 dc13 dc14 dc15 dc16 dc17 dc18 dc19 dc20
            simp only [Mono.putAll, Nat.reduceAdd, dc0, dc1, dc2, dc3, dc4, dc5, dc6, dc7, dc8, dc9, dc10, dc11, dc12, dc13, dc14, dc15, dc16, dc17, dc18, dc19, dc20, Act.put, List.setIfInBounds_toArray, List.set_cons_zero, List.set_cons_succ]
            clear dc0 dc1 dc2 dc3 dc4 dc5 dc6 dc7 dc8 dc9 dc10 dc11 dc12 dc13 dc14 dc15 dc16 dc17 dc18 dc19 dc20
            have HBI2 := Lib.hid (HBI.out.trans (hR.mono hz3))
            have HRW := Lib.hid (HR.out.below HBI2.out)
            have HBW2 := Lib.hid (HB.out.trans (HBI2.out.mono hz2))
            clear hR huc
            have hA1 := (Below.refl W.heap.size W).alloc (Nat.le_refl _) (.cells #[] 36)
            have HRE := Lib.hid (Row.empty (e := 36) (size := 4) W (Nat.le_refl W.heap.size))
            have HTL := Lib.hid (sl_tail4 ((HRW.out.below hA1).sl) HLO.out hqm)
            have hb0 : (0 : Int) ≤ (q : Int) := by omega
            have hb1 : (q : Int) ≤ (gc : Int) := by omega
            generalize hA8 : (if gc = q then some (⟨g, 0, none⟩ : Addr) else some ⟨g, q * 4, none⟩) = A8 at HTL
            have HONE : Hid (∀ u ∈ lc pcC (out.drop q), u.oneCell' = true) := Lib.hid (pc_one _)
            have HA1 := Lib.hid hA1
            clear hA1
            go_wp2_with (at_builtin; refine append_row Try.underlying31 info_pp rfl (by decide) rfl _ _ rfl rfl HRE.out rfl HTL.out HONE.out ?_ ?_ ?_ ?_; omega; omega; (simp))
            intro v6 w6 hr6 hb6
            have HR6 : Hid (Row W.heap.size 36 4 w6 v6 (M - q) (lc pcC (out.drop q))) := Lib.hid (by first | exact hr6 | simpa using hr6)
            have HB6 := Lib.hid (HA1.out.trans hb6)
            have HRW6 := Lib.hid (HRW.out.below HB6.out)
            have HZ6 := Lib.hid (show Below w.heap.size w w6 from HBW2.out.trans (HB6.out.mono HBW2.out.size))
            have hzw6 : w2.heap.size ≤ w6.heap.size := by have := HBI2.out.size; have := HB6.out.size; omega
            have KX6 := Lib.hid (fun (W : World) (hW : Below w6.heap.size w6 W) => KX.out W ((HBI2.out.trans (HB6.out.mono HBI2.out.size)).trans (hW.mono hzw6)))
            have KU6 := Lib.hid (fun (W : World) (hW : Below w6.heap.size w6 W) => KU.out W ((HBI2.out.trans (HB6.out.mono HBI2.out.size)).trans (hW.mono hzw6)))
            clear hr6 hb6 HRE HTL HA1
            obtain ⟨i0, hi, hz0, hz1, hz2⟩ := info_parts info_pp
            have HI := Lib.hid hi
            have HZ0 := Lib.hid hz0
            have HZ1 := Lib.hid hz1
            have HZ2 := Lib.hid hz2
            clear hi hz0 hz1 hz2
            have HTK : Hid ((lc pcC (out.take q)).length = q * 4) := Lib.hid (by rw [lc_len pcC_len, List.length_take, ← HLO.out, Nat.min_eq_left (by omega)])
            have HOL : Hid (∀ W, Below w6.heap.size w6 W → ∀ (b : Addr), some (⟨g, 0, none⟩ : Addr) = some b → ∀ (j : Nat) (u : Value), (lc pcC (out.take q))[j]? = some u → W.cell? (b.add j) = some u) := Lib.hid (fun W hW b hb j u hq => by
              cases hb
              rw [add_plain]
              rw [← lc_take pcC_len, List.getElem?_take] at hq
              split at hq
              · exact sl_same ((HRW6.out.below hW).sl) (by omega) _ _ hq
              · cases hq)
            go_upto_region 12 with (fail)
            refine Mono.region_tail 17 (by kernel_rfl) (by kernel_rfl) (by kernel_rfl) (by kernel_rfl) ?_
            simp only [List.take_succ_cons, List.take_zero]
            refine Mono.hgl_val (v := ?vt0) rfl Mono.rr (fun ρ a W hR hd hf => ?ht0) ?_
            case ht0 =>
              have e3 := Mono.init_get hf (t := 3) (by kernel_rfl)
              clear hd hf
              (go_simp; try with_reducible rfl)
            refine Mono.hgl_val (v := ?vt1) rfl Mono.rr (fun ρ a W hR hd hf => ?ht1) ?_
            case ht1 =>
              have e6 := Mono.init_get hf (t := 6) (by kernel_rfl)
              clear hd hf
              (go_simp; try with_reducible rfl)
            refine Mono.hgl_val (v := ?vt2) rfl Mono.rr (fun ρ a W hR hd hf => ?ht2) ?_
            case ht2 =>
              have e6 := Mono.init_get hf (t := 6) (by kernel_rfl)
              clear hd hf
              (go_simp; try with_reducible rfl)
            refine Mono.hgl_val (v := ?vt3) rfl Mono.rr (fun ρ a W hR hd hf => ?ht3) ?_
            case ht3 =>
              have e51 := Mono.dep_val hd hf (t := 51) (k := 0) (by kernel_rfl) rfl
              have e52 := Mono.dep_val hd hf (t := 52) (k := 1) (by kernel_rfl) rfl
              have e53 := Mono.dep_val hd hf (t := 53) (k := 2) (by kernel_rfl) rfl
              clear hd hf
              (go_simp; try with_reducible rfl)
            refine Mono.hgl_val (v := ?vt4) rfl Mono.rr (fun ρ a W hR hd hf => ?ht4) ?_
            case ht4 =>
              have e0 := Mono.init_get hf (t := 0) (by kernel_rfl)
              clear hd hf
              (go_simp; try with_reducible rfl)
            refine Mono.hgl_val (v := ?vt5) rfl Mono.rr (fun ρ a W hR hd hf => ?ht5) ?_
            case ht5 =>
              have e4 := Mono.init_get hf (t := 4) (by kernel_rfl)
              clear hd hf
              (go_simp; try with_reducible rfl)
            refine Mono.hgl_val (v := ?vt6) rfl Mono.rr (fun ρ a W hR hd hf => ?ht6) ?_
            case ht6 =>
              have e55 := Mono.dep_val hd hf (t := 55) (k := 4) (by kernel_rfl) rfl
              have e56 := Mono.dep_val hd hf (t := 56) (k := 5) (by kernel_rfl) rfl
              clear hd hf
              (go_simp; try with_reducible rfl)
            refine Mono.hgl_val (v := ?vt7) rfl Mono.rr (fun ρ a W hR hd hf => ?ht7) ?_
            case ht7 =>
              have e57 := Mono.dep_val hd hf (t := 57) (k := 6) (by kernel_rfl) rfl
              have hk := KU6.out W hR
              clear hd hf
              (go_simp; try with_reducible rfl)
            refine Mono.hgl_val (v := ?vt8) rfl Mono.rr (fun ρ a W hR hd hf => ?ht8) ?_
            case ht8 =>
              have e5 := Mono.init_get hf (t := 5) (by kernel_rfl)
              clear hd hf
              (go_simp; try with_reducible rfl)
            refine Mono.hgl_val (v := ?vt9) rfl Mono.rr (fun ρ a W hR hd hf => ?ht9) ?_
            case ht9 =>
              have e58 := Mono.dep_val hd hf (t := 58) (k := 7) (by kernel_rfl) rfl
              have e59 := Mono.dep_val hd hf (t := 59) (k := 8) (by kernel_rfl) rfl
              clear hd hf
              (go_simp; try with_reducible rfl)
            refine Mono.hgl_val (v := ?vt10) rfl Mono.rr (fun ρ a W hR hd hf => ?ht10) ?_
            case ht10 =>
              have e60 := Mono.dep_val hd hf (t := 60) (k := 9) (by kernel_rfl) rfl
              obtain ⟨hk, hk2⟩ := KX6.out W hR
              clear hd hf
              (go_simp; try with_reducible rfl)
            refine Mono.hgl_val (v := ?vt11) rfl Mono.rr (fun ρ a W hR hd hf => ?ht11) ?_
            case ht11 =>
              have e4 := Mono.init_get hf (t := 4) (by kernel_rfl)
              clear hd hf
              (go_simp; try with_reducible rfl)
            refine Mono.hgl_val (v := ?vt12) rfl Mono.rr (fun ρ a W hR hd hf => ?ht12) ?_
            case ht12 =>
              have e5 := Mono.init_get hf (t := 5) (by kernel_rfl)
              clear hd hf
              (go_simp; try with_reducible rfl)
            refine Mono.hgl_val (v := ?vt13) rfl Mono.rr (fun ρ a W hR hd hf => ?ht13) ?_
            case ht13 =>
              have e61 := Mono.dep_val hd hf (t := 61) (k := 10) (by kernel_rfl) rfl
              have e62 := Mono.dep_val hd hf (t := 62) (k := 11) (by kernel_rfl) rfl
              have e63 := Mono.dep_val hd hf (t := 63) (k := 12) (by kernel_rfl) rfl
              clear hd hf
              (go_simp; try with_reducible rfl)
            refine Mono.hgl_pred (fun z W => Sl W W.heap.size 4 z 1 [Value.int .i64 (x1 : Nat), .int .i64 (x2 : Nat), .int .i64 (o : Nat), .int .i64 (k : Nat)]) rfl hstSl (fun ρ a W hR hd hf => ?ht14) ?_
            case ht14 =>
              have e64 := Mono.dep_val hd hf (t := 64) (k := 13) (by kernel_rfl) rfl
              clear hd hf
              exact ⟨_, _, by go_simp, (Below.refl _ _).alloc (Nat.le_refl _) _, (Sl.new W 4 1 [Value.int .i64 (x1 : Nat), .int .i64 (x2 : Nat), .int .i64 (o : Nat), .int .i64 (k : Nat)] 36 rfl).mono (by simp)⟩
            refine Mono.hgl_pred (fun z W => Row w6.heap.size 36 4 W z (q + 1) (lc pcC (out.take q) ++ [Value.int .i64 (x1 : Nat), .int .i64 (x2 : Nat), .int .i64 (o : Nat), .int .i64 (k : Nat)])) rfl hstRow (fun ρ a W hR hd hf => ?ht15) ?_
            case ht15 =>
              have e54 := Mono.dep_val hd hf (t := 54) (k := 3) (by kernel_rfl) rfl
              obtain ⟨e65, d14⟩ := Mono.dep_get hd hf (t := 65) (k := 14) (by kernel_rfl)
              replace d14 : (fun z W => Sl W W.heap.size 4 z 1 [Value.int .i64 (x1 : Nat), .int .i64 (x2 : Nat), .int .i64 (o : Nat), .int .i64 (k : Nat)]) (ρ 14) W := d14
              clear hd hf
              exact mono_append_grows Try.underlying31 HI.out HZ0.out HZ1.out HZ2.out rfl (by decide) (.tmp 54) (.tmp 65) rfl (by rw [eval_tmp e54]) (fun h => by cases h) HTK.out (HOL.out W hR) (by rw [eval_tmp e65]) d14 (by intro u hu; simp at hu; rcases hu with rfl | rfl | rfl | rfl <;> rfl) (by omega) (by unfold maxLen; omega) (by omega) hR.size
            refine Mono.hgl_val (v := ?vt16) rfl Mono.rr (fun ρ a W hR hd hf => ?ht16) ?_
            case ht16 =>
              have e7 := Mono.init_get hf (t := 7) (by kernel_rfl)
              clear hd hf
              (go_simp; try with_reducible rfl)
            refine Mono.hgl_done rfl (by decide) (fun ρ W hR ht => ?_)
            simp only [List.take_succ_cons, List.take_zero, List.drop_succ_cons, List.drop_zero]
            obtain ⟨dt16, dt15, dt14, dt13, dt12, dt11, dt10, dt9, dt8, dt7, dt6, dt5, dt4, dt3, dt2, dt1, dt0, _⟩ := ht
            replace dt14 : (fun z W => Sl W W.heap.size 4 z 1 [Value.int .i64 (x1 : Nat), .int .i64 (x2 : Nat), .int .i64 (o : Nat), .int .i64 (k : Nat)]) (ρ 14) W := dt14
            replace dt15 : (fun z W => Row w6.heap.size 36 4 W z (q + 1) (lc pcC (out.take q) ++ [Value.int .i64 (x1 : Nat), .int .i64 (x2 : Nat), .int .i64 (o : Nat), .int .i64 (k : Nat)])) (ρ 15) W := dt15
            simp only [List.length_cons, List.length_nil, Nat.reduceAdd] at dt0 dt1 dt2 dt3 dt4 dt5 dt6 dt7 dt8 dt9 dt10 dt11 dt12 dt13 dt16
            simp only [Mono.putAll, Nat.reduceAdd, dt0, dt1, dt2, dt3, dt4, dt5, dt6, dt7, dt8, dt9, dt10, dt11, dt12, dt13, dt16, Act.put, List.setIfInBounds_toArray, List.set_cons_zero, List.set_cons_succ]
            clear dt0 dt1 dt2 dt3 dt4 dt5 dt6 dt7 dt8 dt9 dt10 dt11 dt12 dt13 dt16
            generalize ρ 14 = rt14 at *
            generalize ρ 15 = rt15 at *
            have HR8 := Lib.hid dt15
            have HB8 := Lib.hid hR
            have HS8 := Lib.hid ((HR6.out.below HB8.out).sl)
            have hz9 : w6.heap.size ≤ W.heap.size := hR.size
            clear hR dt14 dt15
            go_wp2_with (at_builtin; refine append_row (base := w6.heap.size) (size := 4) Try.underlying31 info_pp rfl (by decide) rfl _ _ rfl rfl HR8.out rfl HS8.out HONE.out ?_ ?_ ?_ ?_; omega; omega; exact hz9)
            intro v9 w9 hr9 hb9
            have HR9 := Lib.hid hr9
            have HB9 := Lib.hid (HB8.out.trans hb9)
            clear hr9 hb9
            have HFIN : Hid (Row w.heap.size 36 4 w9 v9 (S + (k + 1)) (lc pcC (insL (allP ls o ++ rowN o (ls o) (k + 1))))) := Lib.hid (by
              rw [rowN_app, ← List.append_assoc, insL_snoc, HXP.out, HOUT.out, ins_take (x := ⟨x1, x2, o, k⟩) (n := q) (by rw [← HLO.out]; exact hqm) HLT.out HHI.out, lc_app, lc_app, lc_one, show S + (k + 1) = q + 1 + (M - q) by have := HMS.out; omega]
              rw [List.append_assoc]
              exact HR9.out.mono HZ6.out.size)
            have HBF := Lib.hid (HZ6.out.trans (HB9.out.mono HZ6.out.size))
            go_wp2_with (fail)
            go_roundw
            case rel => exact ⟨k + 1, rfl, hkm, HFIN, HBF⟩
            case measure => simp [intOf] <;> omega
end Go.Proofs.Ytfnaoekkdgndkaa
