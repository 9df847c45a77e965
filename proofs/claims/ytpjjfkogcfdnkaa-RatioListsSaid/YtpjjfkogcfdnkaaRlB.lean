/- The reference's Sort of floats. -/
import Derived.Test.YtpjjfkogcfdnkaaRlA
import Derived.Deep.RegionLawGrows
namespace Go.Proofs.Ytpjjfkogcfdnkaa
set_option maxRecDepth 100000
set_option linter.unusedVariables false
set_option linter.unusedSimpArgs false
open Go.RowKit Flo
section
variable {α : Type}
/-- x stands at place k, the rest as it stood. -/
def insP (g : Nat → α) (k : Nat) (x : α) : Nat → α := fun j => if j < k then g j else if j = k then x else g (j - 1)
theorem insP_lo {g : Nat → α} {k j : Nat} {x : α} (h : j < k) : insP g k x j = g j := by unfold insP; rw [if_pos h]
theorem insP_at {g : Nat → α} {k : Nat} {x : α} : insP g k x k = x := by unfold insP; simp
theorem insP_hi {g : Nat → α} {k j : Nat} {x : α} (h : k < j) : insP g k x j = g (j - 1) := by unfold insP; rw [if_neg (by omega), if_neg (by omega)]
theorem insP_cnt (p : α → Bool) (g : Nat → α) (k : Nat) (x : α) : ∀ i, k ≤ i → cnt p (insP g k x) (i + 1) = cnt p g i + if p x then 1 else 0 := by
  intro i
  induction i with
  | zero =>
    intro h
    obtain rfl : k = 0 := by omega
    rw [cnt, cnt, cnt, insP_at]
  | succ i ih =>
    intro h
    by_cases hk : k = i + 1
    · subst hk
      rw [cnt, insP_at, cnt_congr p (f := insP g (i + 1) x) (g := g) (i + 1) fun q hq => insP_lo hq]
    · rw [cnt, ih (by omega), insP_hi (by omega), show i + 1 - 1 = i by omega]
      rw [cnt]
      omega
theorem insP_srt {le : α → α → Prop} {g : Nat → α} {i k : Nat} {x : α} (hs : Srt le g 0 i) (hk : k ≤ i) (hlo : ∀ q, q < k → le (g q) x) (hhi : ∀ q, k ≤ q → q < i → le x (g q)) : Srt le (insP g k x) 0 (i + 1) := by
  intro a b h1 h2 h3
  by_cases ha : a < k
  · rw [insP_lo ha]
    by_cases hb : b < k
    · rw [insP_lo hb]; exact hs a b h1 h2 (by omega)
    · by_cases hb2 : b = k
      · subst hb2; rw [insP_at]; exact hlo a ha
      · rw [insP_hi (by omega)]
        by_cases e : a = b - 1
        · omega
        · exact hs a (b - 1) h1 (by omega) (by omega)
  · by_cases ha2 : a = k
    · subst ha2
      rw [insP_at, insP_hi h2]
      exact hhi (b - 1) (by omega) (by omega)
    · rw [insP_hi (show k < a by omega), insP_hi (show k < b by omega)]
      exact hs (a - 1) (b - 1) (by omega) (by omega) (by omega)
end
theorem insP_cells (g : Nat → El) (i k : Nat) (x : El) (hk : k ≤ i) : fcells (i + 1) (insP g k x) = (fcells k g ++ [enc x]) ++ (fcells i g).drop k := by
  refine List.ext_getElem? fun q => ?_
  by_cases hq : q < i + 1
  · rw [fcells_get _ hq]
    by_cases h1 : q < k
    · rw [List.append_assoc, List.getElem?_append_left (by rw [fcells_len]; exact h1), fcells_get g h1, insP_lo h1]
    · by_cases h2 : q = k
      · subst h2
        rw [List.append_assoc, List.getElem?_append_right (by rw [fcells_len]; omega), fcells_len, Nat.sub_self, insP_at]
        rfl
      · rw [List.getElem?_append_right (by simp [fcells_len]; omega), List.getElem?_drop, insP_hi (by omega)]
        rw [show k + (q - (fcells k g ++ [enc x]).length) = q - 1 by simp [fcells_len]; omega, fcells_get g (by omega)]
  · rw [List.getElem?_eq_none (by rw [fcells_len]; omega), List.getElem?_eq_none (by simp [fcells_len]; omega)]
theorem fcells_take (g : Nat → El) {i k : Nat} (h : k ≤ i) : (fcells i g).take k = fcells k g := by
  refine List.ext_getElem? fun q => ?_
  rw [List.getElem?_take]
  split
  · rename_i hq
    rw [fcells_get g hq, fcells_get g (by omega)]
  · rw [List.getElem?_eq_none (by rw [fcells_len]; omega)]
theorem sl_tail {w : World} {B b off j bc k : Nat} {g : Nat → El} (h : Sl w B 1 (.slice (some ⟨b, off, none⟩) j bc) j (fcells j g)) (hk : k ≤ j) :
    Sl w B 1 (.slice (if bc = k then some ⟨b, off, none⟩ else some ⟨b, off + k, none⟩) (j - k) (bc - k)) (j - k) ((fcells j g).drop k) := by
  obtain ⟨_, _, hv, hc⟩ := h.form
  injection hv with _ _ h3
  have hcap := hc
  refine ⟨by rw [List.length_drop, fcells_len, Nat.mul_one], _, _, rfl, by omega, ?_⟩
  by_cases e : k = j
  · refine .inl ⟨by omega, fun h0 => ?_⟩
    split at h0 <;> cases h0
  · obtain ⟨b1, off1, cap, hv1, _, hb, hcell⟩ := h.pos (by omega)
    injection hv1 with hv1
    injection hv1 with hv1
    injection hv1 with e1 e2
    subst e1 e2
    rw [if_neg (by omega)]
    refine .inr ⟨b, off + k, rfl, hb, fun q u hq => ?_⟩
    rw [List.getElem?_drop] at hq
    rw [Nat.add_assoc]
    exact hcell _ _ hq
theorem row_form {base e : Nat} {w : World} {v : Value} {n : Nat} {xs : List Value} (h : Row base e 1 w v n xs) : (v = .slice none 0 0 ∧ n = 0) ∨ ∃ g off cap, v = .slice (some ⟨g, off, none⟩) n cap ∧ n ≤ cap := by
  rcases h.2 with h0 | ⟨g, cap, cur, hv, _, _, hn, _⟩
  · exact .inl h0
  · exact .inr ⟨g, 0, cap, hv, hn⟩
theorem step_append_row {e size t bytes base n : Nat} {v : Value} {xs : List Value} {z : Value} (ht : Try.prog.underlying t = some (.slice e)) (hinfo : (Try.prog.info? e).map (fun i => (i.zero, i.size, i.bytes)) = some (some z, size, bytes)) (hzs : z.cells.size = size) (hsz : 0 < size)
    {ops : Array Oper} {o : Oper} {a : Act} {w : World} {K : Act → World → Prop} {Q : Exit → Act → World → Prop} {E : Prop} (hgd : o.guard = none) (s x : Operand)
    (ho : o.op = .call { callee := .builtin .append, args := #[s, x], argTypes := #[t, t] }) (hs : a.eval s = v) (hown : Row base e size w v n xs)
    {B : Nat} {u : Value} {m : Nat} {news : List Value} (hx : a.eval x = u) (hsl : Sl w B size u m news) (h1 : ∀ u ∈ news, u.oneCell' = true) (hn : n + m ≤ 1000000000000) (hby : (n + m) * bytes ≤ 140737488355328) (hbase : base ≤ w.heap.size)
    (h : ∀ v' w', Row base e size w' v' (n + m) (xs ++ news) → Below base w w' → K (a.put o.dst v') w') : if Region.wanted o (yielded ops a.tmps) = true then Oper.wp Try.prog o a w K Q else E := by
  have hw : Region.wanted o (yielded ops a.tmps) = true := by simp [Region.wanted, hgd]
  rw [if_pos hw]
  obtain ⟨i0, hi, hz0, hz1, hz2⟩ := info_parts hinfo
  obtain ⟨hl, au, cap, rfl, hcap, hor⟩ := hsl
  have fin : ∀ v' w', w'.ownsRow base e size v' (n + m) (xs ++ news) → w.grownBy w' v.ownBlock → K (a.put o.dst v') w' := fun v' w' k1 k2 =>
    h v' w' k1 ((Below.refl _ _).grown k2 hbase (fun k hk => (World.ownsRow.lt hown k hk).1))
  rcases hor with ⟨h0, hc⟩ | ⟨b, off, rfl, hb, hcells⟩
  · subst h0
    have hnil : news = [] := List.eq_nil_of_length_eq_zero (by simpa using hl)
    subst hnil
    cases au with
    | none =>
      rw [hc rfl] at hx
      have hrun := run_append_owned_none (P := Try.prog) (w := w) base t o.type e i0 size ht hi v n xs hown
      unfold Oper.wp
      simp [execOp, ho, resolve, invoke, builtin, hs, hx, hrun, Result.andThen]
      refine fin v w ?_ ⟨rfl, rfl, rfl, Nat.le_refl _, fun _ _ _ => rfl⟩
      simpa using (show w.ownsRow base e size v n xs from hown)
    | some ad =>
      refine wp_append_own w s x t ho base e i0 z size bytes ht hi hz0 hz1 hz2 hzs hsz v n xs hs hown ad 0 cap [] hx (by simp) (fun j u hj => by simp at hj) (by simp) (by unfold maxLen; omega) hby hbase ?_
      intro v' w' k1 k2 _
      exact fin v' w' k1 k2
  · refine wp_append_own w s x t ho base e i0 z size bytes ht hi hz0 hz1 hz2 hzs hsz v n xs hs hown ⟨b, off, none⟩ m cap news hx hl (fun j u hj => by rw [add_plain]; exact hcells j u hj) h1 (by unfold maxLen; omega) hby hbase ?_
    intro v' w' k1 k2 _
    exact fin v' w' k1 k2
set_option maxHeartbeats 4000000 in
theorem refSort_any (n : Nat) (f : Nat → El) (v : Value) (B : Nat) (w : World) (h : Sl w B 1 v n (fcells n f)) (hB : B ≤ w.heap.size) (hn : n ≤ 1000) :
    Calls Try.prog 20 #[v] w fun e w' => ∃ v' g, e = .returned v' ∧ Sl w' w'.heap.size 1 v' n (fcells n g) ∧ Srt leF g 0 n ∧ (∀ p : El → Bool, cnt p g n = cnt p f n) ∧ Below w.heap.size w w' := by
  obtain ⟨a, cap, rfl, hcap⟩ := h.form
  have HS := Lib.hid (fun (W : World) (hW : Below w.heap.size w W) => h.below (hW.mono hB))
  clear h
  go_enter Try.func20, Try.ntmps20
  go_wp2_with (fail)
  go_loopw [3, 4] (fun v i wr => ∃ (j : Nat) (g : Nat → El), i = .int .i64 j ∧ j ≤ n ∧ Hid (Srt leF g 0 j) ∧ Hid (∀ p : El → Bool, cnt p g j = cnt p f j) ∧ Hid (Row w.heap.size 23 1 wr v j (fcells j g)) ∧ Hid (Below w.heap.size w wr)) (fun _ i _ => n - (intOf i).toNat)
  case atStart => exact ⟨0, f, rfl, Nat.zero_le _, Lib.hid (srt_small _ _ _ _ (by omega)), Lib.hid (fun _ => rfl), Lib.hid Row.nil, Lib.hid (Below.refl _ _)⟩
  case round =>
    obtain ⟨j, g, rfl, hj, HT, HC, HR, HB⟩ := hrel
    obtain ⟨wo, rfl⟩ : ∃ z : World, z = wr := ⟨_, rfl⟩
    by_cases hlt : j < n
    rotate_left
    · have d1 : decide (j < n) = false := decide_eq_false hlt
      have d2 : decide ((j : Int) < (n : Int)) = false := decide_eq_false (by omega)
      obtain rfl : j = n := by omega
      go_wp2_with (fail)
      go_ret
      exact ⟨_, g, rfl, HR.out.sl, HT.out, HC.out, HB.out⟩
    have d1 : decide (j < n) = true := decide_eq_true hlt
    have d2 : decide ((j : Int) < (n : Int)) = true := decide_eq_true (by omega)
    have q1 : IntKind.i64.wrap ((j : Int) + 1) = (j : Int) + 1 := IntWalk.i64_in _ (by omega)
    have hbi : (j : Int) < (n : Int) := by omega
    have hzo : w.heap.size ≤ wo.heap.size := HB.out.size
    obtain ⟨b, off, rfl, hk0⟩ := sl_cells (HS.out wo HB.out) (by omega)
    clear hk0
    rcases row_form HR.out with ⟨rfl, hj0⟩ | ⟨b1, off1, bc, rfl, hbc⟩
    · have HJ0 := Lib.hid hj0
      clear hj0
      go_wp2_with (fail)
      refine wp_loop_rounds 1 ?_
      rw [rounds_succ]
      have d3 : decide ((0 : Int) < ((0 : Nat) : Int)) = false := by simp
      obtain ⟨w2, hw2⟩ : ∃ z : World, z = wo := ⟨_, rfl⟩
      go_upto_region 6 with (fail)
      refine Mono.region_below (by kernel_rfl) (by kernel_rfl) (by kernel_rfl) ?_
      refine Mono.rgl_val (v := ?vd0) rfl Mono.rr (fun ρ a W hR hd hf => ?hd0) ?_
      case hd0 =>
        have e5 := Mono.init_get hf (t := 5) (by kernel_rfl)
        clear hd hf
        (go_simp; try with_reducible rfl)
      refine Mono.rgl_val (v := ?vd1) rfl Mono.rr (fun ρ a W hR hd hf => ?hd1) ?_
      case hd1 =>
        have e15 := Mono.dep_val hd hf (t := 15) (k := 0) (by kernel_rfl) rfl
        clear hd hf
        (go_simp; try with_reducible rfl)
      refine Mono.rgl_val (v := ?vd2) rfl Mono.rr (fun ρ a W hR hd hf => ?hd2) ?_
      case hd2 =>
        have e16 := Mono.dep_val hd hf (t := 16) (k := 1) (by kernel_rfl) rfl
        clear hd hf
        (go_simp; try with_reducible rfl)
      refine Mono.rgl_skip rfl (by decide) (fun ρ W hd => Mono.guard_val hd (t := 17) (k := 2) (by kernel_rfl) rfl) ?_
      refine Mono.rgl_skip rfl (by decide) (fun ρ W hd => Mono.guard_val hd (t := 17) (k := 2) (by kernel_rfl) rfl) ?_
      refine Mono.rgl_skip rfl (by decide) (fun ρ W hd => Mono.guard_val hd (t := 17) (k := 2) (by kernel_rfl) rfl) ?_
      refine Mono.rgl_skip rfl (by decide) (fun ρ W hd => Mono.guard_val hd (t := 17) (k := 2) (by kernel_rfl) rfl) ?_
      refine Mono.rgl_skip rfl (by decide) (fun ρ W hd => Mono.guard_val hd (t := 17) (k := 2) (by kernel_rfl) rfl) ?_
      refine Mono.rgl_skip rfl (by decide) (fun ρ W hd => Mono.guard_val hd (t := 17) (k := 2) (by kernel_rfl) rfl) ?_
      refine Mono.rgl_skip rfl (by decide) (fun ρ W hd => Mono.guard_val hd (t := 17) (k := 2) (by kernel_rfl) rfl) ?_
      refine Mono.rgl_skip rfl (by decide) (fun ρ W hd => Mono.guard_val hd (t := 17) (k := 2) (by kernel_rfl) rfl) ?_
      refine Mono.rgl_skip rfl (by decide) (fun ρ W hd => Mono.guard_val hd (t := 17) (k := 2) (by kernel_rfl) rfl) ?_
      refine Mono.rgl_skip rfl (by decide) (fun ρ W hd => Mono.guard_val hd (t := 17) (k := 2) (by kernel_rfl) rfl) ?_
      refine Mono.rgl_skip rfl (by decide) (fun ρ W hd => Mono.guard_val hd (t := 17) (k := 2) (by kernel_rfl) rfl) ?_
      refine Mono.rgl_val (v := ?vd14) rfl Mono.rr (fun ρ a W hR hd hf => ?hd14) ?_
      case hd14 =>
        have e17 := Mono.dep_val hd hf (t := 17) (k := 2) (by kernel_rfl) rfl
        have e28 := Mono.dep_val hd hf (t := 28) (k := 13) (by kernel_rfl) rfl
        clear hd hf
        (go_simp; try with_reducible rfl)
      refine Mono.rgl_done rfl (fun ρ W hR ht => ?_)
      obtain ⟨dd14, dd13, dd12, dd11, dd10, dd9, dd8, dd7, dd6, dd5, dd4, dd3, dd2, dd1, dd0, _⟩ := ht
      simp only [List.length_cons, List.length_nil, Nat.reduceAdd] at dd0 dd1 dd2 dd3 dd4 dd5 dd6 dd7 dd8 dd9 dd10 dd11 dd12 dd13 dd14
      simp only [Mono.putAll, Nat.reduceAdd, dd0, dd1, dd2, dd3, dd4, dd5, dd6, dd7, dd8, dd9, dd10, dd11, dd12, dd13, dd14, Act.put, List.setIfInBounds_toArray, List.set_cons_zero, List.set_cons_succ]
      clear dd0 dd1 dd2 dd3 dd4 dd5 dd6 dd7 dd8 dd9 dd10 dd11 dd12 dd13 dd14

      have HRW := Lib.hid (HR.out.below hR)
      have HBW2 := Lib.hid (HB.out.trans (hR.mono hzo))
      have HKL : Hid (∀ q, q < 0 → leF (g q) (f j)) := Lib.hid (fun q h => by omega)
      have HKH : Hid (∀ q, 0 ≤ q → q < j → leF (f j) (g q)) := Lib.hid (fun q _ h => by have := HJ0.out; omega)
      have hkj : 0 ≤ j := Nat.zero_le _
      clear hR
      have hA1 := (Below.refl W.heap.size W).alloc (Nat.le_refl _) (.cells #[] 23)
      have HRE := Lib.hid (Row.empty (e := 23) (size := 1) W (Nat.le_refl W.heap.size))
      have HTL := Lib.hid (show Sl (W.alloc (.cells #[] 23)) 0 1 (.slice none 0 0) (j - 0) ((fcells j g).drop 0) from by obtain rfl := HJ0.out; exact Sl.nil)
      
      have HONE : Hid (∀ u ∈ (fcells j g).drop (0), u.oneCell' = true) := Lib.hid (fun u hu => fcells_one j g u (List.mem_of_mem_drop hu))
      have HA1 := Lib.hid hA1
      clear hA1
      go_wp2_with (at_builtin; refine append_row Try.underlying32 info_f64 rfl (by decide) rfl _ _ rfl rfl HRE.out rfl HTL.out HONE.out ?_ ?_ ?_ ?_; omega; omega; (simp))
      intro v6 w6 hr6 hb6
      have HR6 : Hid (Row W.heap.size 23 1 w6 v6 (j - (0)) ((fcells j g).drop (0))) := Lib.hid (by simpa using hr6)
      have HB6 := Lib.hid (HA1.out.trans hb6)
      have HRW6 := Lib.hid (HRW.out.below HB6.out)
      have HZ6 := Lib.hid (show Below w.heap.size w w6 from HBW2.out.trans (HB6.out.mono HBW2.out.size))
      clear hr6 hb6 HRE HTL HA1
      obtain ⟨z, hz0⟩ : ∃ z, enc (f j) = .float .f64 z := ⟨_, rfl⟩
      have k6 : w6.cell? ⟨b, off + j, none⟩ = some (.float .f64 z) := by rw [← hz0]; exact sl_same (HS.out w6 HZ6.out) (by omega) _ _ (fcells_get f hlt)
      have HEZ := Lib.hid hz0
      clear hz0
      go_wp2_with (fail)
      have hX : Below w6.heap.size w6 (w6.drew.alloc (.cells #[.float .f64 z] 23)) := Below.alloc ((Below.refl _ w6).drew) (Nat.le_refl _) _
      have HX := Lib.hid hX
      clear hX
      obtain ⟨i0, hi, hz0, hz1, hz2⟩ := info_parts info_f64
      have HI := Lib.hid hi
      have HZ0 := Lib.hid hz0
      have HZ1 := Lib.hid hz1
      have HZ2 := Lib.hid hz2
      clear hi hz0 hz1 hz2
      have HNEW : Hid (∀ q u, [Value.float .f64 z][q]? = some u → (w6.drew.alloc (.cells #[.float .f64 z] 23)).cell? (Addr.add ⟨w6.heap.size, 0, none⟩ q) = some u) := Lib.hid (fun q u hq => by
        rw [add_plain, Nat.zero_add]
        show (w6.drew.alloc (.cells #[.float .f64 z] 23)).cell? ⟨w6.drew.heap.size, q, none⟩ = some u
        rw [World.cell?_alloc_at _ _ _ _ rfl]
        simpa using hq)
      have HOLDS := Lib.hid (fun (b' : Addr) (hb : (none : Option Addr) = some b') (q : Nat) (u : Value) (hq : (fcells 0 g)[q]? = some u) => ((by cases hb) : (w6.drew.alloc (.cells #[.float .f64 z] 23)).cell? (b'.add q) = some u))
      have HNONE := Lib.hid (fun (h : (none : Option Addr) = none) => (⟨rfl, rfl⟩ : 0 = 0 ∧ 0 = 0))
      go_region_law (first
        | (refine step_append_grows rfl (.tmp 40) (.tmp 45) 32 rfl 23 i0 (.float .f64 0) 1 8 Try.underlying32 HI.out HZ0.out HZ1.out HZ2.out rfl (by decide) _ _ _ (fcells (0) g) rfl HNONE.out (by simp [fcells_len]) HOLDS.out _ _ _ [.float .f64 z] rfl rfl HNEW.out (by intro u hu; simp at hu; subst hu; rfl) (by omega) (by unfold maxLen; omega) (by omega) ?_
           intro v8 w8 ho8 hg8
           have hb8 := (Below.refl (w6.drew.alloc (.cells #[.float .f64 z] 23)).heap.size _).grown hg8 (Nat.le_refl _) (fun _ h => by cases h)
           have hz8 : w6.heap.size ≤ (w6.drew.alloc (.cells #[.float .f64 z] 23)).heap.size := HX.out.size
           have HB8 := Lib.hid (HX.out.trans (hb8.mono hz8))
           have hz9 : w6.heap.size ≤ w8.heap.size := HB8.out.size
           have HR8 : Hid (Row w6.heap.size 23 1 w8 v8 ((0) + 1) (fcells (0) g ++ [.float .f64 z])) := Lib.hid (Row.mono ho8 hz8)
           have HS8 := Lib.hid ((HR6.out.below HB8.out).sl)
           clear ho8 hg8 hb8)
        | (refine step_append_row Try.underlying32 info_f64 rfl (by decide) rfl (.tmp 46) (.tmp 47) rfl rfl HR8.out rfl HS8.out HONE.out (by omega) (by omega) hz9 ?_
           intro v9 w9 hr9 hb9
           have HR9 := Lib.hid hr9
           have HB9 := Lib.hid (HB8.out.trans hb9)
           clear hr9 hb9))
      go_wp2_with (fail)
      go_roundw
      case rel => exact ⟨j + 1, insP g (0) (f j), rfl, by omega, Lib.hid (insP_srt HT.out hkj HKL.out HKH.out), Lib.hid (fun q => by rw [insP_cnt q g (0) (f j) j hkj, HC.out q, cnt]), Lib.hid (by rw [insP_cells g j (0) (f j) hkj, HEZ.out, show j + 1 = (0) + 1 + (j - (0)) by omega]; exact HR9.out.mono HZ6.out.size), Lib.hid (HZ6.out.trans (HB9.out.mono HZ6.out.size))⟩
      case measure => simp [intOf] <;> omega

    go_wp2_with (fail)
    go_loopw [5] (fun x wr => ∃ k : Nat, x = .int .i64 k ∧ k ≤ j ∧ Hid (∀ q, k ≤ q → q < j → leF (f j) (g q)) ∧ Hid (Below wo.heap.size wo wr)) (fun x _ => (intOf x).toNat)
    case atStart => exact ⟨j, rfl, Nat.le_refl _, Lib.hid (fun q h1 h2 => by omega), Lib.hid (Below.refl _ _)⟩
    case round =>
      obtain ⟨k, rfl, hkj, HKH, HBI⟩ := hrel
      obtain ⟨w2, rfl⟩ : ∃ z : World, z = wr := ⟨_, rfl⟩
      have HBW := Lib.hid (HB.out.trans (HBI.out.mono hzo))
      by_cases hpos : 0 < k
      · obtain ⟨p, rfl⟩ : ∃ p, k = p + 1 := ⟨k - 1, by omega⟩
        have d3 : decide ((0 : Int) < (p : Int) + 1) = true := decide_eq_true (by omega)
        have q2 : IntKind.i64.wrap ((p : Int) + 1 - 1) = (p : Int) := by rw [IntWalk.i64_in _ (by omega)]; omega
        have q3 : IntKind.i64.wrap (p : Int) = (p : Int) := IntWalk.i64_in _ (by omega)
        have hpj : p < j := by omega
        have hpj' : (p : Int) < (j : Int) := by omega
        have hz2 : wo.heap.size ≤ w2.heap.size := HBI.out.size
        have k1 : Hid (∀ W, Below w2.heap.size w2 W → W.cell? ⟨b1, off1 + p, none⟩ = some (enc (g p))) := Lib.hid (fun W hW => sl_same ((HR.out.below (HBI.out.trans (hW.mono hz2))).sl) (by omega) _ _ (fcells_get g hpj))
        have k2 : Hid (∀ W, Below w2.heap.size w2 W → W.cell? ⟨b, off + j, none⟩ = some (enc (f j))) := Lib.hid (fun W hW => sl_same (HS.out W (HBW.out.trans (hW.mono (Nat.le_trans hzo hz2)))) (by omega) _ _ (fcells_get f hlt))
        have HC2 := Lib.hid (fun W : World => refCompare_any (g p).1 (f j).1 (g p).2 (f j).2 W)
        have HLE : Hid (leF (g p) (f j) ↔ cmpF (g p).1 (f j).1 ≤ 0) := Lib.hid Iff.rfl
        by_cases hcc : 0 < cmpF (g p).1 (f j).1
        · have d4 : decide (0 < cmpF (g p).1 (f j).1) = true := decide_eq_true hcc
          have HKH2 : Hid (∀ q, p ≤ q → q < j → leF (f j) (g q)) := Lib.hid (fun q h1 h2 => by
            by_cases e : q = p
            · subst e
              unfold leF
              have := cmpF_anti (g q).1 (f j).1
              omega
            · exact HKH.out q (by omega) h2)
          clear hcc
          generalize cmpF (g p).1 (f j).1 = cc at *
          go_upto_region 6 with (fail)
          refine Mono.region_below (by kernel_rfl) (by kernel_rfl) (by kernel_rfl) ?_
          refine Mono.rgl_val (v := ?va0) rfl Mono.rr (fun ρ a W hR hd hf => ?ha0) ?_
          case ha0 =>
            have e5 := Mono.init_get hf (t := 5) (by kernel_rfl)
            clear hd hf
            (go_simp; try with_reducible rfl)
          refine Mono.rgl_val (v := ?va1) rfl Mono.rr (fun ρ a W hR hd hf => ?ha1) ?_
          case ha1 =>
            have e15 := Mono.dep_val hd hf (t := 15) (k := 0) (by kernel_rfl) rfl
            clear hd hf
            (go_simp; try with_reducible rfl)
          refine Mono.rgl_val (v := ?va2) rfl Mono.rr (fun ρ a W hR hd hf => ?ha2) ?_
          case ha2 =>
            have e16 := Mono.dep_val hd hf (t := 16) (k := 1) (by kernel_rfl) rfl
            clear hd hf
            (go_simp; try with_reducible rfl)
          refine Mono.rgl_valg (v := ?va3) rfl Mono.rr (fun ρ W hd => Mono.guard_val hd (t := 17) (k := 2) (by kernel_rfl) rfl) (fun ρ a W hR hd hf => ?ha3) ?_
          case ha3 =>
            have e3 := Mono.init_get hf (t := 3) (by kernel_rfl)
            clear hd hf
            (go_simp; try with_reducible rfl)
          refine Mono.rgl_valg (v := ?va4) rfl Mono.rr (fun ρ W hd => Mono.guard_val hd (t := 17) (k := 2) (by kernel_rfl) rfl) (fun ρ a W hR hd hf => ?ha4) ?_
          case ha4 =>
            have e5 := Mono.init_get hf (t := 5) (by kernel_rfl)
            clear hd hf
            (go_simp; try with_reducible rfl)
          refine Mono.rgl_valg (v := ?va5) rfl Mono.rr (fun ρ W hd => Mono.guard_val hd (t := 17) (k := 2) (by kernel_rfl) rfl) (fun ρ a W hR hd hf => ?ha5) ?_
          case ha5 =>
            have e19 := Mono.dep_val hd hf (t := 19) (k := 4) (by kernel_rfl) rfl
            clear hd hf
            (go_simp; try with_reducible rfl)
          refine Mono.rgl_valg (v := ?va6) rfl Mono.rr (fun ρ W hd => Mono.guard_val hd (t := 17) (k := 2) (by kernel_rfl) rfl) (fun ρ a W hR hd hf => ?ha6) ?_
          case ha6 =>
            have e18 := Mono.dep_val hd hf (t := 18) (k := 3) (by kernel_rfl) rfl
            have e20 := Mono.dep_val hd hf (t := 20) (k := 5) (by kernel_rfl) rfl
            clear hd hf
            (go_simp; try with_reducible rfl)
          refine Mono.rgl_valg (v := ?va7) rfl Mono.rr (fun ρ W hd => Mono.guard_val hd (t := 17) (k := 2) (by kernel_rfl) rfl) (fun ρ a W hR hd hf => ?ha7) ?_
          case ha7 =>
            have e21 := Mono.dep_val hd hf (t := 21) (k := 6) (by kernel_rfl) rfl
            have hk := k1.out W hR
            clear hd hf
            (go_simp; try with_reducible rfl)
          refine Mono.rgl_valg (v := ?va8) rfl Mono.rr (fun ρ W hd => Mono.guard_val hd (t := 17) (k := 2) (by kernel_rfl) rfl) (fun ρ a W hR hd hf => ?ha8) ?_
          case ha8 =>
            have e0 := Mono.init_get hf (t := 0) (by kernel_rfl)
            clear hd hf
            (go_simp; try with_reducible rfl)
          refine Mono.rgl_valg (v := ?va9) rfl Mono.rr (fun ρ W hd => Mono.guard_val hd (t := 17) (k := 2) (by kernel_rfl) rfl) (fun ρ a W hR hd hf => ?ha9) ?_
          case ha9 =>
            have e4 := Mono.init_get hf (t := 4) (by kernel_rfl)
            clear hd hf
            (go_simp; try with_reducible rfl)
          refine Mono.rgl_valg (v := ?va10) rfl Mono.rr (fun ρ W hd => Mono.guard_val hd (t := 17) (k := 2) (by kernel_rfl) rfl) (fun ρ a W hR hd hf => ?ha10) ?_
          case ha10 =>
            have e23 := Mono.dep_val hd hf (t := 23) (k := 8) (by kernel_rfl) rfl
            have e24 := Mono.dep_val hd hf (t := 24) (k := 9) (by kernel_rfl) rfl
            clear hd hf
            (go_simp; try with_reducible rfl)
          refine Mono.rgl_valg (v := ?va11) rfl Mono.rr (fun ρ W hd => Mono.guard_val hd (t := 17) (k := 2) (by kernel_rfl) rfl) (fun ρ a W hR hd hf => ?ha11) ?_
          case ha11 =>
            have e25 := Mono.dep_val hd hf (t := 25) (k := 10) (by kernel_rfl) rfl
            have hk := k2.out W hR
            clear hd hf
            (go_simp; try with_reducible rfl)
          refine Mono.rgl_callg (fun x _ => x = .int .i64 cc) rfl Mono.rr (fun _ _ _ h _ => h) (fun ρ W hd => Mono.guard_val hd (t := 17) (k := 2) (by kernel_rfl) rfl) (fun ρ a W hR hd hf => ?ha12) ?_
          case ha12 =>
            have e22 := Mono.dep_val hd hf (t := 22) (k := 7) (by kernel_rfl) rfl
            have e26 := Mono.dep_val hd hf (t := 26) (k := 11) (by kernel_rfl) rfl
            clear hd hf
            refine ⟨_, _, by go_simp; first | rfl | exact ⟨rfl, rfl⟩, ?_⟩
            exact (HC2.out W).mono (by rintro e w' ⟨rfl, rfl⟩; exact ⟨_, rfl, Below.refl _ _, rfl⟩)
          refine Mono.rgl_valg (v := ?va13) rfl Mono.rr (fun ρ W hd => Mono.guard_val hd (t := 17) (k := 2) (by kernel_rfl) rfl) (fun ρ a W hR hd hf => ?ha13) ?_
          case ha13 =>
            have e27 := Mono.dep_val hd hf (t := 27) (k := 12) (by kernel_rfl) rfl
            clear hd hf
            (go_simp; try with_reducible rfl)
          refine Mono.rgl_val (v := ?va14) rfl Mono.rr (fun ρ a W hR hd hf => ?ha14) ?_
          case ha14 =>
            have e17 := Mono.dep_val hd hf (t := 17) (k := 2) (by kernel_rfl) rfl
            have e28 := Mono.dep_val hd hf (t := 28) (k := 13) (by kernel_rfl) rfl
            clear hd hf
            (go_simp; try with_reducible rfl)
          refine Mono.rgl_done rfl (fun ρ W hR ht => ?_)
          obtain ⟨da14, da13, da12, da11, da10, da9, da8, da7, da6, da5, da4, da3, da2, da1, da0, _⟩ := ht
          simp only [List.length_cons, List.length_nil, Nat.reduceAdd] at da0 da1 da2 da3 da4 da5 da6 da7 da8 da9 da10 da11 da12 da13 da14
          simp only [Mono.putAll, Nat.reduceAdd, da0, da1, da2, da3, da4, da5, da6, da7, da8, da9, da10, da11, da12, da13, da14, Act.put, List.setIfInBounds_toArray, List.set_cons_zero, List.set_cons_succ]
          clear da0 da1 da2 da3 da4 da5 da6 da7 da8 da9 da10 da11 da12 da13 da14

          have HBI := Lib.hid (HBI.out.trans (hR.mono hz2))
          clear hR
          go_wp2_with (fail)
          go_roundw
          case rel => exact ⟨p, rfl, by omega, HKH2, HBI⟩
          case measure => simp [intOf] <;> omega
        · have d4 : decide (0 < cmpF (g p).1 (f j).1) = false := decide_eq_false hcc
          have HKL : Hid (∀ q, q < p + 1 → leF (g q) (f j)) := Lib.hid (fun q h1 => ordF.trans (HT.out.le ordF (Nat.zero_le _) (show q ≤ p by omega) hpj) (HLE.out.2 (by omega)))
          clear hcc
          generalize cmpF (g p).1 (f j).1 = cc at *
          go_upto_region 6 with (fail)
          refine Mono.region_below (by kernel_rfl) (by kernel_rfl) (by kernel_rfl) ?_
          refine Mono.rgl_val (v := ?vb0) rfl Mono.rr (fun ρ a W hR hd hf => ?hb0) ?_
          case hb0 =>
            have e5 := Mono.init_get hf (t := 5) (by kernel_rfl)
            clear hd hf
            (go_simp; try with_reducible rfl)
          refine Mono.rgl_val (v := ?vb1) rfl Mono.rr (fun ρ a W hR hd hf => ?hb1) ?_
          case hb1 =>
            have e15 := Mono.dep_val hd hf (t := 15) (k := 0) (by kernel_rfl) rfl
            clear hd hf
            (go_simp; try with_reducible rfl)
          refine Mono.rgl_val (v := ?vb2) rfl Mono.rr (fun ρ a W hR hd hf => ?hb2) ?_
          case hb2 =>
            have e16 := Mono.dep_val hd hf (t := 16) (k := 1) (by kernel_rfl) rfl
            clear hd hf
            (go_simp; try with_reducible rfl)
          refine Mono.rgl_valg (v := ?vb3) rfl Mono.rr (fun ρ W hd => Mono.guard_val hd (t := 17) (k := 2) (by kernel_rfl) rfl) (fun ρ a W hR hd hf => ?hb3) ?_
          case hb3 =>
            have e3 := Mono.init_get hf (t := 3) (by kernel_rfl)
            clear hd hf
            (go_simp; try with_reducible rfl)
          refine Mono.rgl_valg (v := ?vb4) rfl Mono.rr (fun ρ W hd => Mono.guard_val hd (t := 17) (k := 2) (by kernel_rfl) rfl) (fun ρ a W hR hd hf => ?hb4) ?_
          case hb4 =>
            have e5 := Mono.init_get hf (t := 5) (by kernel_rfl)
            clear hd hf
            (go_simp; try with_reducible rfl)
          refine Mono.rgl_valg (v := ?vb5) rfl Mono.rr (fun ρ W hd => Mono.guard_val hd (t := 17) (k := 2) (by kernel_rfl) rfl) (fun ρ a W hR hd hf => ?hb5) ?_
          case hb5 =>
            have e19 := Mono.dep_val hd hf (t := 19) (k := 4) (by kernel_rfl) rfl
            clear hd hf
            (go_simp; try with_reducible rfl)
          refine Mono.rgl_valg (v := ?vb6) rfl Mono.rr (fun ρ W hd => Mono.guard_val hd (t := 17) (k := 2) (by kernel_rfl) rfl) (fun ρ a W hR hd hf => ?hb6) ?_
          case hb6 =>
            have e18 := Mono.dep_val hd hf (t := 18) (k := 3) (by kernel_rfl) rfl
            have e20 := Mono.dep_val hd hf (t := 20) (k := 5) (by kernel_rfl) rfl
            clear hd hf
            (go_simp; try with_reducible rfl)
          refine Mono.rgl_valg (v := ?vb7) rfl Mono.rr (fun ρ W hd => Mono.guard_val hd (t := 17) (k := 2) (by kernel_rfl) rfl) (fun ρ a W hR hd hf => ?hb7) ?_
          case hb7 =>
            have e21 := Mono.dep_val hd hf (t := 21) (k := 6) (by kernel_rfl) rfl
            have hk := k1.out W hR
            clear hd hf
            (go_simp; try with_reducible rfl)
          refine Mono.rgl_valg (v := ?vb8) rfl Mono.rr (fun ρ W hd => Mono.guard_val hd (t := 17) (k := 2) (by kernel_rfl) rfl) (fun ρ a W hR hd hf => ?hb8) ?_
          case hb8 =>
            have e0 := Mono.init_get hf (t := 0) (by kernel_rfl)
            clear hd hf
            (go_simp; try with_reducible rfl)
          refine Mono.rgl_valg (v := ?vb9) rfl Mono.rr (fun ρ W hd => Mono.guard_val hd (t := 17) (k := 2) (by kernel_rfl) rfl) (fun ρ a W hR hd hf => ?hb9) ?_
          case hb9 =>
            have e4 := Mono.init_get hf (t := 4) (by kernel_rfl)
            clear hd hf
            (go_simp; try with_reducible rfl)
          refine Mono.rgl_valg (v := ?vb10) rfl Mono.rr (fun ρ W hd => Mono.guard_val hd (t := 17) (k := 2) (by kernel_rfl) rfl) (fun ρ a W hR hd hf => ?hb10) ?_
          case hb10 =>
            have e23 := Mono.dep_val hd hf (t := 23) (k := 8) (by kernel_rfl) rfl
            have e24 := Mono.dep_val hd hf (t := 24) (k := 9) (by kernel_rfl) rfl
            clear hd hf
            (go_simp; try with_reducible rfl)
          refine Mono.rgl_valg (v := ?vb11) rfl Mono.rr (fun ρ W hd => Mono.guard_val hd (t := 17) (k := 2) (by kernel_rfl) rfl) (fun ρ a W hR hd hf => ?hb11) ?_
          case hb11 =>
            have e25 := Mono.dep_val hd hf (t := 25) (k := 10) (by kernel_rfl) rfl
            have hk := k2.out W hR
            clear hd hf
            (go_simp; try with_reducible rfl)
          refine Mono.rgl_callg (fun x _ => x = .int .i64 cc) rfl Mono.rr (fun _ _ _ h _ => h) (fun ρ W hd => Mono.guard_val hd (t := 17) (k := 2) (by kernel_rfl) rfl) (fun ρ a W hR hd hf => ?hb12) ?_
          case hb12 =>
            have e22 := Mono.dep_val hd hf (t := 22) (k := 7) (by kernel_rfl) rfl
            have e26 := Mono.dep_val hd hf (t := 26) (k := 11) (by kernel_rfl) rfl
            clear hd hf
            refine ⟨_, _, by go_simp; first | rfl | exact ⟨rfl, rfl⟩, ?_⟩
            exact (HC2.out W).mono (by rintro e w' ⟨rfl, rfl⟩; exact ⟨_, rfl, Below.refl _ _, rfl⟩)
          refine Mono.rgl_valg (v := ?vb13) rfl Mono.rr (fun ρ W hd => Mono.guard_val hd (t := 17) (k := 2) (by kernel_rfl) rfl) (fun ρ a W hR hd hf => ?hb13) ?_
          case hb13 =>
            have e27 := Mono.dep_val hd hf (t := 27) (k := 12) (by kernel_rfl) rfl
            clear hd hf
            (go_simp; try with_reducible rfl)
          refine Mono.rgl_val (v := ?vb14) rfl Mono.rr (fun ρ a W hR hd hf => ?hb14) ?_
          case hb14 =>
            have e17 := Mono.dep_val hd hf (t := 17) (k := 2) (by kernel_rfl) rfl
            have e28 := Mono.dep_val hd hf (t := 28) (k := 13) (by kernel_rfl) rfl
            clear hd hf
            (go_simp; try with_reducible rfl)
          refine Mono.rgl_done rfl (fun ρ W hR ht => ?_)
          obtain ⟨db14, db13, db12, db11, db10, db9, db8, db7, db6, db5, db4, db3, db2, db1, db0, _⟩ := ht
          simp only [List.length_cons, List.length_nil, Nat.reduceAdd] at db0 db1 db2 db3 db4 db5 db6 db7 db8 db9 db10 db11 db12 db13 db14
          simp only [Mono.putAll, Nat.reduceAdd, db0, db1, db2, db3, db4, db5, db6, db7, db8, db9, db10, db11, db12, db13, db14, Act.put, List.setIfInBounds_toArray, List.set_cons_zero, List.set_cons_succ]
          clear db0 db1 db2 db3 db4 db5 db6 db7 db8 db9 db10 db11 db12 db13 db14

          have HBI := Lib.hid (HBI.out.trans (hR.mono hz2))
          have HRW := Lib.hid (HR.out.below HBI.out)
          have HBW2 := Lib.hid (HBW.out.trans (hR.mono (Nat.le_trans hzo hz2)))
          clear hR
          have hA1 := (Below.refl W.heap.size W).alloc (Nat.le_refl _) (.cells #[] 23)
          have HRE := Lib.hid (Row.empty (e := 23) (size := 1) W (Nat.le_refl W.heap.size))
          have HTL := Lib.hid (sl_tail ((HRW.out.below hA1).sl) hkj)
          generalize hA8 : (if bc = p + 1 then some (⟨b1, off1, none⟩ : Addr) else some ⟨b1, off1 + (p + 1), none⟩) = A8 at HTL
          have hb0 : (0 : Int) ≤ (p : Int) + 1 := by omega
          have hb1 : (p : Int) + 1 ≤ (bc : Int) := by omega
          have HONE : Hid (∀ u ∈ (fcells j g).drop (p + 1), u.oneCell' = true) := Lib.hid (fun u hu => fcells_one j g u (List.mem_of_mem_drop hu))
          have HA1 := Lib.hid hA1
          clear hA1
          go_wp2_with (at_builtin; refine append_row Try.underlying32 info_f64 rfl (by decide) rfl _ _ rfl rfl HRE.out rfl HTL.out HONE.out ?_ ?_ ?_ ?_; omega; omega; (simp))
          intro v6 w6 hr6 hb6
          have HR6 : Hid (Row W.heap.size 23 1 w6 v6 (j - (p + 1)) ((fcells j g).drop (p + 1))) := Lib.hid (by simpa using hr6)
          have HB6 := Lib.hid (HA1.out.trans hb6)
          have HRW6 := Lib.hid (HRW.out.below HB6.out)
          have HZ6 := Lib.hid (show Below w.heap.size w w6 from HBW2.out.trans (HB6.out.mono HBW2.out.size))
          clear hr6 hb6 HRE HTL HA1
          obtain ⟨z, hz0⟩ : ∃ z, enc (f j) = .float .f64 z := ⟨_, rfl⟩
          have k6 : w6.cell? ⟨b, off + j, none⟩ = some (.float .f64 z) := by rw [← hz0]; exact sl_same (HS.out w6 HZ6.out) (by omega) _ _ (fcells_get f hlt)
          have HEZ := Lib.hid hz0
          clear hz0
          go_wp2_with (fail)
          have hX : Below w6.heap.size w6 (w6.drew.alloc (.cells #[.float .f64 z] 23)) := Below.alloc ((Below.refl _ w6).drew) (Nat.le_refl _) _
          have HX := Lib.hid hX
          clear hX
          obtain ⟨i0, hi, hz0, hz1, hz2⟩ := info_parts info_f64
          have HI := Lib.hid hi
          have HZ0 := Lib.hid hz0
          have HZ1 := Lib.hid hz1
          have HZ2 := Lib.hid hz2
          clear hi hz0 hz1 hz2
          have HNEW : Hid (∀ q u, [Value.float .f64 z][q]? = some u → (w6.drew.alloc (.cells #[.float .f64 z] 23)).cell? (Addr.add ⟨w6.heap.size, 0, none⟩ q) = some u) := Lib.hid (fun q u hq => by
            rw [add_plain, Nat.zero_add]
            show (w6.drew.alloc (.cells #[.float .f64 z] 23)).cell? ⟨w6.drew.heap.size, q, none⟩ = some u
            rw [World.cell?_alloc_at _ _ _ _ rfl]
            simpa using hq)
          have HOLDS := Lib.hid (fun (b' : Addr) (hb : some (⟨b1, off1, none⟩ : Addr) = some b') (q : Nat) (u : Value) (hq : (fcells (p + 1) g)[q]? = some u) => (by injection hb with hb; subst hb; rw [add_plain]; exact sl_same ((HRW6.out.below HX.out).sl) (by omega) _ _ (by rw [← fcells_take g hkj, List.getElem?_take] at hq; split at hq; exact hq; cases hq) : (w6.drew.alloc (.cells #[.float .f64 z] 23)).cell? (b'.add q) = some u))
          have HNONE := Lib.hid (fun (h : some (⟨b1, off1, none⟩ : Addr) = none) => ((by cases h) : p + 1 = 0 ∧ p + 1 = 0))
          go_region_law (first
            | (refine step_append_grows rfl (.tmp 40) (.tmp 45) 32 rfl 23 i0 (.float .f64 0) 1 8 Try.underlying32 HI.out HZ0.out HZ1.out HZ2.out rfl (by decide) _ _ _ (fcells (p + 1) g) rfl HNONE.out (by simp [fcells_len]) HOLDS.out _ _ _ [.float .f64 z] rfl rfl HNEW.out (by intro u hu; simp at hu; subst hu; rfl) (by omega) (by unfold maxLen; omega) (by omega) ?_
               intro v8 w8 ho8 hg8
               have hb8 := (Below.refl (w6.drew.alloc (.cells #[.float .f64 z] 23)).heap.size _).grown hg8 (Nat.le_refl _) (fun _ h => by cases h)
               have hz8 : w6.heap.size ≤ (w6.drew.alloc (.cells #[.float .f64 z] 23)).heap.size := HX.out.size
               have HB8 := Lib.hid (HX.out.trans (hb8.mono hz8))
               have hz9 : w6.heap.size ≤ w8.heap.size := HB8.out.size
               have HR8 : Hid (Row w6.heap.size 23 1 w8 v8 ((p + 1) + 1) (fcells (p + 1) g ++ [.float .f64 z])) := Lib.hid (Row.mono ho8 hz8)
               have HS8 := Lib.hid ((HR6.out.below HB8.out).sl)
               clear ho8 hg8 hb8)
            | (refine step_append_row Try.underlying32 info_f64 rfl (by decide) rfl (.tmp 46) (.tmp 47) rfl rfl HR8.out rfl HS8.out HONE.out (by omega) (by omega) hz9 ?_
               intro v9 w9 hr9 hb9
               have HR9 := Lib.hid hr9
               have HB9 := Lib.hid (HB8.out.trans hb9)
               clear hr9 hb9))
          go_wp2_with (fail)
          go_roundw
          case rel => exact ⟨j + 1, insP g (p + 1) (f j), rfl, by omega, Lib.hid (insP_srt HT.out hkj HKL.out HKH.out), Lib.hid (fun q => by rw [insP_cnt q g (p + 1) (f j) j hkj, HC.out q, cnt]), Lib.hid (by rw [insP_cells g j (p + 1) (f j) hkj, HEZ.out, show j + 1 = (p + 1) + 1 + (j - (p + 1)) by omega]; exact HR9.out.mono HZ6.out.size), Lib.hid (HZ6.out.trans (HB9.out.mono HZ6.out.size))⟩
          case measure => simp [intOf] <;> omega
      · obtain rfl : k = 0 := by omega
        have d3 : decide ((0 : Int) < ((0 : Nat) : Int)) = false := by simp
        have hz2 : wo.heap.size ≤ w2.heap.size := HBI.out.size
        go_upto_region 6 with (fail)
        refine Mono.region_below (by kernel_rfl) (by kernel_rfl) (by kernel_rfl) ?_
        refine Mono.rgl_val (v := ?vc0) rfl Mono.rr (fun ρ a W hR hd hf => ?hc0) ?_
        case hc0 =>
          have e5 := Mono.init_get hf (t := 5) (by kernel_rfl)
          clear hd hf
          (go_simp; try with_reducible rfl)
        refine Mono.rgl_val (v := ?vc1) rfl Mono.rr (fun ρ a W hR hd hf => ?hc1) ?_
        case hc1 =>
          have e15 := Mono.dep_val hd hf (t := 15) (k := 0) (by kernel_rfl) rfl
          clear hd hf
          (go_simp; try with_reducible rfl)
        refine Mono.rgl_val (v := ?vc2) rfl Mono.rr (fun ρ a W hR hd hf => ?hc2) ?_
        case hc2 =>
          have e16 := Mono.dep_val hd hf (t := 16) (k := 1) (by kernel_rfl) rfl
          clear hd hf
          (go_simp; try with_reducible rfl)
        refine Mono.rgl_skip rfl (by decide) (fun ρ W hd => Mono.guard_val hd (t := 17) (k := 2) (by kernel_rfl) rfl) ?_
        refine Mono.rgl_skip rfl (by decide) (fun ρ W hd => Mono.guard_val hd (t := 17) (k := 2) (by kernel_rfl) rfl) ?_
        refine Mono.rgl_skip rfl (by decide) (fun ρ W hd => Mono.guard_val hd (t := 17) (k := 2) (by kernel_rfl) rfl) ?_
        refine Mono.rgl_skip rfl (by decide) (fun ρ W hd => Mono.guard_val hd (t := 17) (k := 2) (by kernel_rfl) rfl) ?_
        refine Mono.rgl_skip rfl (by decide) (fun ρ W hd => Mono.guard_val hd (t := 17) (k := 2) (by kernel_rfl) rfl) ?_
        refine Mono.rgl_skip rfl (by decide) (fun ρ W hd => Mono.guard_val hd (t := 17) (k := 2) (by kernel_rfl) rfl) ?_
        refine Mono.rgl_skip rfl (by decide) (fun ρ W hd => Mono.guard_val hd (t := 17) (k := 2) (by kernel_rfl) rfl) ?_
        refine Mono.rgl_skip rfl (by decide) (fun ρ W hd => Mono.guard_val hd (t := 17) (k := 2) (by kernel_rfl) rfl) ?_
        refine Mono.rgl_skip rfl (by decide) (fun ρ W hd => Mono.guard_val hd (t := 17) (k := 2) (by kernel_rfl) rfl) ?_
        refine Mono.rgl_skip rfl (by decide) (fun ρ W hd => Mono.guard_val hd (t := 17) (k := 2) (by kernel_rfl) rfl) ?_
        refine Mono.rgl_skip rfl (by decide) (fun ρ W hd => Mono.guard_val hd (t := 17) (k := 2) (by kernel_rfl) rfl) ?_
        refine Mono.rgl_val (v := ?vc14) rfl Mono.rr (fun ρ a W hR hd hf => ?hc14) ?_
        case hc14 =>
          have e17 := Mono.dep_val hd hf (t := 17) (k := 2) (by kernel_rfl) rfl
          have e28 := Mono.dep_val hd hf (t := 28) (k := 13) (by kernel_rfl) rfl
          clear hd hf
          (go_simp; try with_reducible rfl)
        refine Mono.rgl_done rfl (fun ρ W hR ht => ?_)
        obtain ⟨dc14, dc13, dc12, dc11, dc10, dc9, dc8, dc7, dc6, dc5, dc4, dc3, dc2, dc1, dc0, _⟩ := ht
        simp only [List.length_cons, List.length_nil, Nat.reduceAdd] at dc0 dc1 dc2 dc3 dc4 dc5 dc6 dc7 dc8 dc9 dc10 dc11 dc12 dc13 dc14
        simp only [Mono.putAll, Nat.reduceAdd, dc0, dc1, dc2, dc3, dc4, dc5, dc6, dc7, dc8, dc9, dc10, dc11, dc12, dc13, dc14, Act.put, List.setIfInBounds_toArray, List.set_cons_zero, List.set_cons_succ]
        clear dc0 dc1 dc2 dc3 dc4 dc5 dc6 dc7 dc8 dc9 dc10 dc11 dc12 dc13 dc14

        have HBI := Lib.hid (HBI.out.trans (hR.mono hz2))
        have HRW := Lib.hid (HR.out.below HBI.out)
        have HBW2 := Lib.hid (HBW.out.trans (hR.mono (Nat.le_trans hzo hz2)))
        have HKL : Hid (∀ q, q < 0 → leF (g q) (f j)) := Lib.hid (fun q h => by omega)
        clear hR
        have hA1 := (Below.refl W.heap.size W).alloc (Nat.le_refl _) (.cells #[] 23)
        have HRE := Lib.hid (Row.empty (e := 23) (size := 1) W (Nat.le_refl W.heap.size))
        have HTL := Lib.hid (show Sl (W.alloc (.cells #[] 23)) (W.alloc (.cells #[] 23)).heap.size 1 (.slice (some ⟨b1, off1, none⟩) j bc) (j - 0) ((fcells j g).drop 0) from (HRW.out.below hA1).sl)
        have hb0 : (0 : Int) ≤ (bc : Int) := by omega
        have HONE : Hid (∀ u ∈ (fcells j g).drop (0), u.oneCell' = true) := Lib.hid (fun u hu => fcells_one j g u (List.mem_of_mem_drop hu))
        have HA1 := Lib.hid hA1
        clear hA1
        go_wp2_with (at_builtin; refine append_row Try.underlying32 info_f64 rfl (by decide) rfl _ _ rfl rfl HRE.out rfl HTL.out HONE.out ?_ ?_ ?_ ?_; omega; omega; (simp))
        intro v6 w6 hr6 hb6
        have HR6 : Hid (Row W.heap.size 23 1 w6 v6 (j - (0)) ((fcells j g).drop (0))) := Lib.hid (by simpa using hr6)
        have HB6 := Lib.hid (HA1.out.trans hb6)
        have HRW6 := Lib.hid (HRW.out.below HB6.out)
        have HZ6 := Lib.hid (show Below w.heap.size w w6 from HBW2.out.trans (HB6.out.mono HBW2.out.size))
        clear hr6 hb6 HRE HTL HA1
        obtain ⟨z, hz0⟩ : ∃ z, enc (f j) = .float .f64 z := ⟨_, rfl⟩
        have k6 : w6.cell? ⟨b, off + j, none⟩ = some (.float .f64 z) := by rw [← hz0]; exact sl_same (HS.out w6 HZ6.out) (by omega) _ _ (fcells_get f hlt)
        have HEZ := Lib.hid hz0
        clear hz0
        go_wp2_with (fail)
        have hX : Below w6.heap.size w6 (w6.drew.alloc (.cells #[.float .f64 z] 23)) := Below.alloc ((Below.refl _ w6).drew) (Nat.le_refl _) _
        have HX := Lib.hid hX
        clear hX
        obtain ⟨i0, hi, hz0, hz1, hz2⟩ := info_parts info_f64
        have HI := Lib.hid hi
        have HZ0 := Lib.hid hz0
        have HZ1 := Lib.hid hz1
        have HZ2 := Lib.hid hz2
        clear hi hz0 hz1 hz2
        have HNEW : Hid (∀ q u, [Value.float .f64 z][q]? = some u → (w6.drew.alloc (.cells #[.float .f64 z] 23)).cell? (Addr.add ⟨w6.heap.size, 0, none⟩ q) = some u) := Lib.hid (fun q u hq => by
          rw [add_plain, Nat.zero_add]
          show (w6.drew.alloc (.cells #[.float .f64 z] 23)).cell? ⟨w6.drew.heap.size, q, none⟩ = some u
          rw [World.cell?_alloc_at _ _ _ _ rfl]
          simpa using hq)
        have HOLDS := Lib.hid (fun (b' : Addr) (hb : some (⟨b1, off1, none⟩ : Addr) = some b') (q : Nat) (u : Value) (hq : (fcells 0 g)[q]? = some u) => ((by simp [fcells] at hq) : (w6.drew.alloc (.cells #[.float .f64 z] 23)).cell? (b'.add q) = some u))
        have HNONE := Lib.hid (fun (h : some (⟨b1, off1, none⟩ : Addr) = none) => ((by cases h) : 0 = 0 ∧ 0 = 0))
        go_region_law (first
          | (refine step_append_grows rfl (.tmp 40) (.tmp 45) 32 rfl 23 i0 (.float .f64 0) 1 8 Try.underlying32 HI.out HZ0.out HZ1.out HZ2.out rfl (by decide) _ _ _ (fcells (0) g) rfl HNONE.out (by simp [fcells_len]) HOLDS.out _ _ _ [.float .f64 z] rfl rfl HNEW.out (by intro u hu; simp at hu; subst hu; rfl) (by omega) (by unfold maxLen; omega) (by omega) ?_
             intro v8 w8 ho8 hg8
             have hb8 := (Below.refl (w6.drew.alloc (.cells #[.float .f64 z] 23)).heap.size _).grown hg8 (Nat.le_refl _) (fun _ h => by cases h)
             have hz8 : w6.heap.size ≤ (w6.drew.alloc (.cells #[.float .f64 z] 23)).heap.size := HX.out.size
             have HB8 := Lib.hid (HX.out.trans (hb8.mono hz8))
             have hz9 : w6.heap.size ≤ w8.heap.size := HB8.out.size
             have HR8 : Hid (Row w6.heap.size 23 1 w8 v8 ((0) + 1) (fcells (0) g ++ [.float .f64 z])) := Lib.hid (Row.mono ho8 hz8)
             have HS8 := Lib.hid ((HR6.out.below HB8.out).sl)
             clear ho8 hg8 hb8)
          | (refine step_append_row Try.underlying32 info_f64 rfl (by decide) rfl (.tmp 46) (.tmp 47) rfl rfl HR8.out rfl HS8.out HONE.out (by omega) (by omega) hz9 ?_
             intro v9 w9 hr9 hb9
             have HR9 := Lib.hid hr9
             have HB9 := Lib.hid (HB8.out.trans hb9)
             clear hr9 hb9))
        go_wp2_with (fail)
        go_roundw
        case rel => exact ⟨j + 1, insP g (0) (f j), rfl, by omega, Lib.hid (insP_srt HT.out hkj HKL.out HKH.out), Lib.hid (fun q => by rw [insP_cnt q g (0) (f j) j hkj, HC.out q, cnt]), Lib.hid (by rw [insP_cells g j (0) (f j) hkj, HEZ.out, show j + 1 = (0) + 1 + (j - (0)) by omega]; exact HR9.out.mono HZ6.out.size), Lib.hid (HZ6.out.trans (HB9.out.mono HZ6.out.size))⟩
        case measure => simp [intOf] <;> omega
end Go.Proofs.Ytpjjfkogcfdnkaa
