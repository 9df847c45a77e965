/- The walk of linear.shorten. -/
import Derived.Test.YtmcbgjkogggneaaDoorLsB
import Derived.Test.YtmcbgjkogggneaaDoorSrB
namespace Go.Proofs.YtmcbgjkogggneaaDoor
set_option maxRecDepth 100000
set_option linter.unusedVariables false
set_option linter.unusedSimpArgs false
open Go.RowKit Go.Maps Go.WideMaps
theorem Gr.setNew {b c : Nat} {w w' : World} (h : Gr b w w') (hc : w.heap.size ≤ c) (k : Nat) (v : Value) : Gr b w (w'.setCell ⟨c, k, none⟩ v) := by
  have hb : Below c w' (w'.setCell ⟨c, k, none⟩ v) := (Below.refl c w').setCell (p := ⟨c, k, none⟩) (Nat.le_refl _) v
  exact ⟨hb.os.trans h.os, hb.tape.trans h.tape, hb.output.trans h.output, Nat.le_trans h.size hb.size, fun j hj hne => (hb.block j (by omega)).trans (h.block j hj hne)⟩
theorem MapK.setCell {w : World} {b c : Nat} {K : List ByteArray} (h : MapK w b K) (hc : c ≠ b) (k : Nat) (v : Value) : MapK (w.setCell ⟨c, k, none⟩ v) b K :=
  h.kept (Gr.set (Gr.refl c w) k v) (fun e => by injection e with e; exact hc e.symm)
/-- What the inner loop keeps: the copy of the names, the first q of which are short. -/
structure InI (wo : World) (rb mb cb m : Nat) (v4 : Value) (K : List ByteArray) (ns : List ByteArray) (c : List Value) (wr : World) (q : Nat) (K' : List ByteArray) (l : List ByteArray) : Prop where
  map : MapK wr mb K'
  pb : wr.cell? ⟨mb + 1, 0, none⟩ = some (.map (some mb))
  len : K'.length ≤ K.length + q
  ext : ∃ T, K' = K ++ T
  own : Own wr cb c
  row : Row rb 9 1 wr v4 m (scells l)
  ll : l.length = m
  lo : ∀ k s, k < q → ns[k]? = some s → hasL K' s = true ∧ l[k]? = some (dgs (ixL K' s))
  hi : ∀ k, q ≤ k → l[k]? = ns[k]?
  gr : Gr mb wo wr
  lt : rb ≤ wr.heap.size
theorem InI.step {wo w0 w' : World} {rb mb cb m q g cap : Nat} {K K' ns l : List ByteArray} {c : List Value} {s : ByteArray} (h : InI wo rb mb cb m (.slice (some ⟨g, 0, none⟩) m cap) K ns c w0 q K' l) (hs : ns[q]? = some s) (hg : Gr mb w0 w') (hm : MapK w' mb (addK K' s)) (h1 : mb + 1 < cb) (h2 : cb < rb) (h3 : rb ≤ g) (h4 : wo.heap.size ≤ cb) (h5 : mb + 1 < wo.heap.size) :
    InI wo rb mb cb m (.slice (some ⟨g, 0, none⟩) m cap) K ns c (w'.setCell ⟨g, q, none⟩ (.string (dgs (ixL (addK K' s) s)))) (q + 1) (addK K' s) (l.set q (dgs (ixL (addK K' s) s))) := by
  have hlt := h.lt
  have hpb : mb + 1 < w0.heap.size := by have := h.gr.size; omega
  have hcb : cb < w0.heap.size := by omega
  obtain ⟨T, hT⟩ := addK_ext K' s
  refine ⟨hm.setCell (by omega) _ _, ?_, ?_, ?_, ?_, ?_, ?_, fun k t hk ht => ?_, fun k hk => ?_, (h.gr.trans hg).setNew (by omega) _ _, ?_⟩
  · rw [World.cell?_setCell_other _ _ _ _ (by simp <;> omega), World.cell?_of_block (w := w0) (a := ⟨mb + 1, 0, none⟩) (hg.block (mb + 1) hpb (by simp))]
    exact h.pb
  · have := addK_len K' s
    have := h.len
    omega
  · obtain ⟨T', hT'⟩ := h.ext
    exact ⟨T' ++ T, by rw [hT, hT', List.append_assoc]⟩
  · exact (h.own.grown hg (by simp; omega) hcb).other (by omega) _ _
  · have hr : Row rb 9 1 w' (.slice (some ⟨g, 0, none⟩) m cap) m (scells l) := h.row.kept_lt hg (by omega)
    have := (World.ownsRow.stored hr q (.string (dgs (ixL (addK K' s) s)))).1
    unfold scells at this ⊢
    rw [List.map_set]
    exact this
  · rw [List.length_set]; exact h.ll
  · by_cases e : k = q
    · subst e
      obtain rfl : s = t := by rw [hs] at ht; exact Option.some.inj ht
      refine ⟨addK_has _ _, ?_⟩
      have hkl : k < l.length := by
        have := h.hi k (Nat.le_refl _)
        rw [hs] at this
        exact (List.getElem?_eq_some_iff.1 this).1
      rw [List.getElem?_set, if_pos rfl, if_pos hkl]
    · obtain ⟨a1, a2⟩ := h.lo k t (by omega) ht
      rw [hT]
      refine ⟨hasL_app T a1, ?_⟩
      rw [List.getElem?_set, if_neg (by omega), a2, ixL_app T a1]
  · rw [List.getElem?_set, if_neg (by omega)]
    exact h.hi k (by omega)
  · have := hg.size
    simp
    omega
theorem InI.below {wo w0 w' : World} {rb mb cb m q : Nat} {v4 : Value} {K K' ns l : List ByteArray} {c : List Value} (h : InI wo rb mb cb m v4 K ns c w0 q K' l) (hb : Below w0.heap.size w0 w') (h1 : mb + 1 < cb) (h2 : cb < rb) : InI wo rb mb cb m v4 K ns c w' q K' l := by
  have hlt := h.lt
  exact ⟨h.map.below hb, (hb.cell (p := ⟨mb + 1, 0, none⟩) (by show mb + 1 < _; omega)).trans h.pb, h.len, h.ext, h.own.below hb (by omega), h.row.below hb, h.ll, h.lo, h.hi, Gr.up h.gr hb, Nat.le_trans h.lt hb.size⟩
set_option maxHeartbeats 8000000 in
theorem shorten_any (n : Nat) (cv : Nat → CallV) (nm : Nat → List ByteArray) (v : Value) (B : Nat) (w : World) (h : CallsAt w B n v cv nm) (hns : ∀ k, k < n → ∀ s ∈ nm k, s.size ≤ maxLen) (hB : B ≤ w.heap.size) (hn : n ≤ 8) :
    Calls Tryd.prog 26 #[v] w fun e w' => ∃ v' K cv' nm', e = .returned v' ∧ ShI w.heap.size (w.heap.size + 2) n cv nm w' n v' K cv' nm' ∧ Below w.heap.size w w' := by
  obtain ⟨a, cap, rfl, hcap⟩ := h.sl.form
  have HC := Lib.hid (fun (W : World) (hW : Below w.heap.size w W) => h.below (hW.mono hB))
  have HNS := Lib.hid hns
  clear h hns
  have hmm := @run_makeMap Tryd.prog
  have hA := ((Below.refl w.heap.size w).alloc (Nat.le_refl _) (.map #[] 0)).alloc (by simp) (.cells #[.map (some w.heap.size)] 67)
  have HM0 : Hid (MapK ((w.alloc (.map #[] 0)).alloc (.cells #[.map (some w.heap.size)] 67)) w.heap.size []) := Lib.hid ⟨.map [], 0, World.ownsMap.alloc (World.ownsMap_made _ _ _ _) _, Nat.le_refl _, rfl, fun s hs => ⟨rfl, fun hq => by cases hq⟩⟩
  have HP0 : Hid (((w.alloc (.map #[] 0)).alloc (.cells #[.map (some w.heap.size)] 67)).cell? ⟨w.heap.size + 1, 0, none⟩ = some (.map (some w.heap.size))) := Lib.hid (by rw [World.cell?_alloc_at _ _ _ _ (by simp)]; rfl)
  have HA := Lib.hid hA
  have HZ0 : Hid (((w.alloc (.map #[] 0)).alloc (.cells #[.map (some w.heap.size)] 67)).heap.size = w.heap.size + 2) := Lib.hid (by simp)
  clear hA
  go_enter Tryd.func26, Tryd.ntmps26
  go_wp2_with (fail)
  go_loopw [5, 14] (fun v i wr => ∃ j : Nat, ∃ K cv' nm', i = .int .i64 j ∧ j ≤ n ∧ Hid (ShI w.heap.size (w.heap.size + 2) n cv nm wr j v K cv' nm') ∧ Hid (Below w.heap.size w wr) ∧ w.heap.size + 2 ≤ wr.heap.size) (fun _ i _ => n - (intOf i).toNat)
  case atStart => exact ⟨0, [], cv, nm, rfl, Nat.zero_le _, Lib.hid ⟨Row.nil, HM0.out, HP0.out, Nat.le_refl _, fun k hk => by omega, fun k hk => by omega⟩, HA, Nat.le_of_eq HZ0.out.symm⟩
  case round =>
    obtain ⟨j, K, cv', nm', rfl, hj, HI, HB2, hzw⟩ := hrel
    obtain ⟨wo, rfl⟩ : ∃ z : World, z = wr := ⟨_, rfl⟩
    obtain ⟨ba, bcp, hbv, hbc⟩ := HI.out.row.form
    subst hbv
    by_cases hlt : j < n
    rotate_left
    · have d1 : decide (j < n) = false := decide_eq_false hlt
      have d2 : decide ((j : Int) < (n : Int)) = false := decide_eq_false (by omega)
      obtain rfl : j = n := by omega
      go_wp2_with (fail)
      go_ret
      exact ⟨_, K, cv', nm', rfl, HI.out, HB2.out⟩
    have d1 : decide (j < n) = true := decide_eq_true hlt
    have d2 : decide ((j : Int) < (n : Int)) = true := decide_eq_true (by omega)
    have q1 : IntKind.i64.wrap ((j : Int) + 1) = (j : Int) + 1 := IntWalk.i64_in _ (by omega)
    have hbi : (j : Int) < (n : Int) := by omega
    obtain ⟨b, off, rfl, hk0⟩ := sl_cells (HC.out wo HB2.out).sl (by omega)
    clear hk0
    obtain ⟨c0, c1, c2, c3, c4, c5⟩ := call_cells (HC.out wo HB2.out).sl hlt
    have HNM := Lib.hid (HC.out wo HB2.out)
    obtain ⟨ns, hnsj⟩ : ∃ ns, nm j = ns := ⟨_, rfl⟩
    have HNL : Hid (ns.length = (cv j).nn) := Lib.hid (by rw [← hnsj]; exact HNM.out.len j hlt)
    have HSZ : Hid (∀ s ∈ ns, s.size ≤ maxLen) := Lib.hid (by rw [← hnsj]; exact HNS.out j hlt)
    have HSL : Hid (Sl wo B 1 (.slice (cv j).na (cv j).nn (cv j).nc) (cv j).nn (scells ns)) := Lib.hid (by rw [← hnsj]; exact HNM.out.names j hlt)
    have h20 : (cv j).nn ≤ 20 := by rw [← HNL.out, ← hnsj]; exact HNM.out.few j hlt
    have hsz := HNM.out.name j hlt
    have HNSJ := Lib.hid hnsj
    obtain ⟨c, hcj⟩ : ∃ c, cv j = c := ⟨_, rfl⟩
    rw [hcj] at c0 c1 c2 c3 c4 c5 HNL HSL h20 hsz
    have HCJ := Lib.hid hcj
    obtain ⟨kind, name, told, na, nn, nc, beg, fin⟩ := c
    simp only at c0 c1 c2 c3 c4 c5 HNL HSL h20 hsz
    clear hcj hnsj
    obtain ⟨w1, hw1⟩ : ∃ z : World, z = wo.alloc (.cells #[.int .i64 kind, .string name, .bool told, .slice na nn nc, .int .i64 beg, .int .i64 fin] 32) := ⟨_, rfl⟩
    have HO1 : Hid (Own w1 wo.heap.size [.int .i64 kind, .string name, .bool told, .slice na nn nc, .int .i64 beg, .int .i64 fin]) := Lib.hid (by rw [hw1]; exact Own.new_at wo _ _ _ rfl)
    have HB1 : Hid (Below wo.heap.size wo w1) := Lib.hid (by rw [hw1]; exact (Below.refl _ _).alloc (Nat.le_refl _) _)
    have HG1 : Hid (Gr w.heap.size wo w1) := Lib.hid (Gr.up (Gr.refl _ _) HB1.out)
    have HZ1 : Hid (w1.heap.size = wo.heap.size + 1) := Lib.hid (by rw [hw1]; simp)
    have HSH := Lib.hid (short_any (w.heap.size + 1) w.heap.size K name w1 ((HB1.out.cell (p := ⟨w.heap.size + 1, 0, none⟩) (show w.heap.size + 1 < wo.heap.size by omega)).trans HI.out.pb) (HI.out.map.below HB1.out) hsz (by have := HI.out.len; omega))
    have HW1 := Lib.hid hw1
    clear hw1
    go_wp2_with (fail)
    rw [← HW1.out]
    refine HSH.out.mono ?_
    rintro e w2 ⟨rfl, hm2, hg2⟩
    have HO2 := Lib.hid (HO1.out.grown hg2 (by simp; omega) (by have := HZ1.out; omega))
    have HG2 : Hid (Gr w.heap.size wo w2) := Lib.hid (Gr.trans HG1.out hg2)
    have HM2 := Lib.hid hm2
    obtain ⟨K2, hK2⟩ : ∃ K2, addK K name = K2 := ⟨_, rfl⟩
    have HE2 : Hid (∃ T, K2 = K ++ T) := Lib.hid (by rw [← hK2]; exact addK_ext K name)
    have HHN : Hid (hasL K2 name = true) := Lib.hid (by rw [← hK2]; exact addK_has K name)
    have HL2 : Hid (K2.length ≤ K.length + 1) := Lib.hid (by rw [← hK2]; exact addK_len K name)
    have HK9 : Hid (K.length ≤ 9 * j) := Lib.hid HI.out.len
    rw [hK2] at HM2 ⊢
    obtain ⟨nm1, hnm1⟩ : ∃ nm1, dgs (ixL K2 name) = nm1 := ⟨_, rfl⟩
    rw [hnm1]
    have HNM1 := Lib.hid hnm1
    have HZ2 := hg2.size
    have hz1 := HZ1.out
    clear hm2 hg2 hK2 hnm1 HSH HO1 HG1 HM0 HP0 hcap c0 c1 c2 c3 c4 c5
    have y0 := HO2.out.1 0 _ rfl
    have y1 := HO2.out.1 1 _ rfl
    have y2 := HO2.out.1 2 _ rfl
    have y3 := HO2.out.1 3 _ rfl
    have y4 := HO2.out.1 4 _ rfl
    have y5 := HO2.out.1 5 _ rfl
    have yf := HO2.out.2
    obtain ⟨w3, hw3⟩ : ∃ z : World, z = w2.setCell ⟨wo.heap.size, 1, none⟩ (.string nm1) := ⟨_, rfl⟩
    have HO3 : Hid (Own w3 wo.heap.size [.int .i64 kind, .string nm1, .bool told, .slice na nn nc, .int .i64 beg, .int .i64 fin]) := Lib.hid (by rw [hw3]; exact HO2.out.set 1 _ (by simp))
    have HB3 : Hid (Below wo.heap.size w2 w3) := Lib.hid (by rw [hw3]; exact (Below.refl _ _).setCell (p := ⟨wo.heap.size, 1, none⟩) (Nat.le_refl _) _)
    have HG3 : Hid (Gr w.heap.size wo w3) := Lib.hid (by rw [hw3]; exact HG2.out.setNew (Nat.le_refl _) _ _)
    have HM3 : Hid (MapK w3 w.heap.size K2) := Lib.hid (by rw [hw3]; exact HM2.out.setCell (by omega) _ _)
    have HW3 := Lib.hid hw3
    clear hw3
    by_cases h8 : nn ≤ 8
    rotate_left
    · have d3 : decide (nn ≤ 8) = false := decide_eq_false h8
      have d4 : decide ((nn : Int) ≤ 8) = false := decide_eq_false (by omega)
      go_upto_region 15 with (fail)
      rw [← HW3.out]
      obtain ⟨wX, hwX⟩ : ∃ wX, wX = w3 := ⟨_, rfl⟩
      obtain rfl := hwX
      obtain ⟨K', hK'⟩ : ∃ K', K' = K2 := ⟨_, rfl⟩
      obtain rfl := hK'
      obtain ⟨ns', hns'⟩ : ∃ ns', ns' = ns := ⟨_, rfl⟩
      have HNSE := Lib.hid hns'
      clear hns'
      have HOX := HO3
      have HGX := HG3
      have HMX := HM3
      have HTX := HE2
      have HLX : Hid (K'.length ≤ 9 * (j + 1)) := Lib.hid (by have := HL2.out; have := HK9.out; omega)
      have HSX : Hid (ShortOf K' ⟨kind, name, told, na, nn, nc, beg, fin⟩ ⟨kind, nm1, told, na, nn, nc, beg, fin⟩ ns ns') := Lib.hid ⟨HHN.out, HNM1.out.symm, rfl, rfl, rfl, rfl, rfl, .inr ⟨by have := HNL.out; omega, HNSE.out⟩⟩
      have HNX : Hid (NmAt w.heap.size (w.heap.size + 2) wX ⟨kind, nm1, told, na, nn, nc, beg, fin⟩ ns') := Lib.hid ⟨by rw [HNSE.out]; exact HNL.out, .inl (by rw [HNSE.out]; exact (HSL.out.mono hB).below (HGX.out.below (Nat.le_refl _) (by omega)))⟩
      clear yf y0 y1 y2 y3 y4 y5
      -- the call goes into the list
      have HZX := HGX.out.size
      have HRX := Lib.hid (HI.out.row.kept_lt HGX.out (by omega))
      have HBX : Hid (Below w.heap.size w wX) := Lib.hid (HB2.out.trans (HGX.out.below (Nat.le_refl _) (by omega)))
      obtain ⟨wY, hwY⟩ : ∃ z : World, z = wX.alloc (.cells #[.int .i64 kind, .string nm1, .bool told, .slice na nn nc, .int .i64 beg, .int .i64 fin] 32) := ⟨_, rfl⟩
      have HBY : Hid (Below wX.heap.size wX wY) := Lib.hid (by rw [hwY]; exact (Below.refl _ _).alloc (Nat.le_refl _) _)
      have HSLY : Hid (Sl wY (wX.heap.size + 1) 6 (.slice (some ⟨wX.heap.size, 0, none⟩) 1 1) 1 [.int .i64 kind, .string nm1, .bool told, .slice na nn nc, .int .i64 beg, .int .i64 fin]) := Lib.hid (by rw [hwY]; exact Sl.new wX 6 1 [.int .i64 kind, .string nm1, .bool told, .slice na nn nc, .int .i64 beg, .int .i64 fin] 32 rfl)
      have HONE : Hid (∀ u ∈ ([.int .i64 kind, .string nm1, .bool told, .slice na nn nc, .int .i64 beg, .int .i64 fin] : List Value), u.oneCell' = true) := Lib.hid (by intro u hu; simp at hu; rcases hu with rfl | rfl | rfl | rfl | rfl | rfl <;> rfl)
      have hzy : w.heap.size + 2 ≤ wY.heap.size := by have := HBY.out.size; omega
      have HRY := Lib.hid (HRX.out.below HBY.out)
      have HWY := Lib.hid hwY
      have y0 := HOX.out.1 0 _ rfl
      have y1 := HOX.out.1 1 _ rfl
      have y2 := HOX.out.1 2 _ rfl
      have y3 := HOX.out.1 3 _ rfl
      have y4 := HOX.out.1 4 _ rfl
      have y5 := HOX.out.1 5 _ rfl
      clear hwY
      go_wp2_with (at_builtin; rw [← HWY.out]; refine append_rowG (base := w.heap.size + 2) (size := 6) (xs := ccells j cv') Tryd.underlying22 info_call rfl (by decide) rfl _ _ rfl rfl HRY.out rfl HSLY.out HONE.out ?_ ?_ ?_ ?_; omega; omega; exact hzy)
      intro v7 w7 hr7 hb7 hg7
      have HI7 : Hid (ShI w.heap.size (w.heap.size + 2) n cv nm w7 (j + 1) v7 K' (fun k => if k = j then ⟨kind, nm1, told, na, nn, nc, beg, fin⟩ else cv' k) (fun k => if k = j then ns' else nm' k)) := Lib.hid (HI.out.step (by omega) hzw (HGX.out.up HBY.out) (HMX.out.below HBY.out) HTX.out HLX.out (by rw [HCJ.out, HNSJ.out]; exact HSX.out) (HNX.out.gr (by omega) (Gr.up (Gr.refl _ _) HBY.out) (by omega)) HRY.out hr7 hg7 hb7)
      have HB7 := Lib.hid (HBX.out.trans ((HBY.out.mono (by omega)).trans (hb7.mono (by omega))))
      have hz7 : w.heap.size + 2 ≤ w7.heap.size := by have := hb7.size; omega
      clear hr7 hb7 hg7 y0 y1 y2 y3 y4 y5 HSLY HRY HRX
      go_wp2_with (fail)
      go_roundw
      case rel => exact ⟨j + 1, _, _, _, rfl, by omega, HI7, HB7, hz7⟩
      case measure => simp [intOf] <;> omega
    have d3 : decide (nn ≤ 8) = true := decide_eq_true h8
    have d4 : decide ((nn : Int) ≤ 8) = true := decide_eq_true (by omega)
    have HBW3 : Hid (Below w.heap.size w w3) := Lib.hid (HB2.out.trans (HG3.out.below (Nat.le_refl _) (by omega)))
    have HCL := Lib.hid (clone_len na nc B nn ns w3 HNL.out (HSL.out.below (HG3.out.below hB (by omega))) (Nat.le_trans hB HBW3.out.size) h20)
    have hz3 : wo.heap.size < w3.heap.size := by have := HB3.out.size; omega
    go_wp2_with (fail)
    rw [← HW3.out]
    refine HCL.out.mono ?_
    rintro e w4 ⟨v4, rfl, hr4, hb4⟩
    have HO4 := Lib.hid (HO3.out.below hb4 hz3)
    obtain ⟨g4, cap4, rfl, hcap4⟩ := hr4.form
    have HR4 := Lib.hid hr4
    have HB4 := Lib.hid hb4
    have hz4 := hb4.size
    clear hr4 hb4 yf y0 y1 y2 y3 y4 y5 HCL HW3
    have y0 := HO4.out.1 0 _ rfl
    have y1 := HO4.out.1 1 _ rfl
    have y2 := HO4.out.1 2 _ rfl
    have y3 := HO4.out.1 3 _ rfl
    have y4 := HO4.out.1 4 _ rfl
    have y5 := HO4.out.1 5 _ rfl
    have yf := HO4.out.2
    obtain ⟨w5, hw5⟩ : ∃ z : World, z = w4.setCell ⟨wo.heap.size, 3, none⟩ (.slice g4 nn cap4) := ⟨_, rfl⟩
    have HIN : Hid (InI wo w3.heap.size w.heap.size wo.heap.size nn (.slice g4 nn cap4) K2 ns [.int .i64 kind, .string nm1, .bool told, .slice g4 nn cap4, .int .i64 beg, .int .i64 fin] w5 0 K2 ns) := Lib.hid (by
      rw [hw5]
      refine ⟨(HM3.out.below HB4.out).setCell (by omega) _ _, ?_, Nat.le_refl _, ⟨[], by simp⟩, HO4.out.set 3 _ (by simp), ?_, HNL.out, fun k s hk => by omega, fun k _ => rfl, (Gr.up HG3.out HB4.out).setNew (Nat.le_refl _) _ _, by simp; omega⟩
      · rw [World.cell?_setCell_other _ _ _ _ (by simp <;> omega), HB4.out.cell (p := ⟨w.heap.size + 1, 0, none⟩) (by show w.heap.size + 1 < _; omega), World.cell?_of_block (w := wo) (a := ⟨w.heap.size + 1, 0, none⟩) (HG3.out.block (w.heap.size + 1) (by omega) (by simp))]
        exact HI.out.pb
      · exact HR4.out.kept_lt (Gr.set (Gr.refl _ _) _ _) (by omega))
    have HW5 := Lib.hid hw5
    clear hw5
    go_wp2_with (fail)
    rw [← HW5.out]
    clear yf y0 y1 y2 y3 y4 y5
    go_loopw [34] (fun i wr => ∃ q : Nat, ∃ K' l, i = .int .i64 q ∧ q ≤ nn ∧ Hid (InI wo w3.heap.size w.heap.size wo.heap.size nn (.slice g4 nn cap4) K2 ns [.int .i64 kind, .string nm1, .bool told, .slice g4 nn cap4, .int .i64 beg, .int .i64 fin] wr q K' l)) (fun i _ => nn - (intOf i).toNat)
    case atStart => exact ⟨0, K2, ns, rfl, Nat.zero_le _, HIN⟩
    case round =>
      obtain ⟨q, K', l, rfl, hq, HN⟩ := hrel
      obtain ⟨wq, rfl⟩ : ∃ z : World, z = wr := ⟨_, rfl⟩
      by_cases hql : q < nn
      rotate_left
      · have e1 : decide (q < nn) = false := decide_eq_false hql
        have e2 : decide ((q : Int) < (nn : Int)) = false := decide_eq_false (by omega)
        obtain rfl : q = nn := by omega
        go_upto_region 15 with (fail)
        obtain ⟨wX, hwX⟩ : ∃ wX, wX = wq := ⟨_, rfl⟩
        obtain rfl := hwX
        obtain ⟨ns', hns'⟩ : ∃ ns', ns' = l := ⟨_, rfl⟩
        obtain rfl := hns'
        have HOX := Lib.hid HN.out.own
        have HGX : Hid (Gr w.heap.size wo wX) := Lib.hid HN.out.gr
        have HMX := Lib.hid HN.out.map
        have HTX : Hid (∃ T, K' = K ++ T) := Lib.hid (by
          obtain ⟨T, hT⟩ := HE2.out
          obtain ⟨T2, hT2⟩ := HN.out.ext
          exact ⟨T ++ T2, by rw [hT2, hT, List.append_assoc]⟩)
        have HLX : Hid (K'.length ≤ 9 * (j + 1)) := Lib.hid (by have := HN.out.len; have := HL2.out; have := HK9.out; omega)
        have HSX : Hid (ShortOf K' ⟨kind, name, told, na, q, nc, beg, fin⟩ ⟨kind, nm1, told, g4, q, cap4, beg, fin⟩ ns ns') := Lib.hid (by
          obtain ⟨T2, hT2⟩ := HN.out.ext
          have hh := HHN.out
          refine ⟨by rw [hT2]; exact hasL_app T2 hh, by show nm1 = _; rw [hT2, ixL_app T2 hh]; exact HNM1.out.symm, rfl, rfl, rfl, rfl, rfl, .inl ⟨by have := HNL.out; omega, fun s hs => ?_, ?_⟩⟩
          · obtain ⟨k, hk, rfl⟩ := List.mem_iff_getElem.1 hs
            exact (HN.out.lo k _ (by have := HNL.out; omega) (List.getElem?_eq_getElem hk)).1
          · refine List.ext_getElem? fun k => ?_
            by_cases hk : k < ns.length
            · rw [(HN.out.lo k _ (by have := HNL.out; omega) (List.getElem?_eq_getElem hk)).2, List.getElem?_map, List.getElem?_eq_getElem hk]
              rfl
            · rw [List.getElem?_eq_none (by have := HN.out.ll; have := HNL.out; omega), List.getElem?_eq_none (by simp; omega)])
        have HNX : Hid (NmAt w.heap.size (w.heap.size + 2) wX ⟨kind, nm1, told, g4, q, cap4, beg, fin⟩ ns') := Lib.hid ⟨HN.out.ll, .inr (HN.out.row.mono (by omega))⟩
        -- the call goes into the list
        have HZX := HGX.out.size
        have HRX := Lib.hid (HI.out.row.kept_lt HGX.out (by omega))
        have HBX : Hid (Below w.heap.size w wX) := Lib.hid (HB2.out.trans (HGX.out.below (Nat.le_refl _) (by omega)))
        obtain ⟨wY, hwY⟩ : ∃ z : World, z = wX.alloc (.cells #[.int .i64 kind, .string nm1, .bool told, .slice g4 q cap4, .int .i64 beg, .int .i64 fin] 32) := ⟨_, rfl⟩
        have HBY : Hid (Below wX.heap.size wX wY) := Lib.hid (by rw [hwY]; exact (Below.refl _ _).alloc (Nat.le_refl _) _)
        have HSLY : Hid (Sl wY (wX.heap.size + 1) 6 (.slice (some ⟨wX.heap.size, 0, none⟩) 1 1) 1 [.int .i64 kind, .string nm1, .bool told, .slice g4 q cap4, .int .i64 beg, .int .i64 fin]) := Lib.hid (by rw [hwY]; exact Sl.new wX 6 1 [.int .i64 kind, .string nm1, .bool told, .slice g4 q cap4, .int .i64 beg, .int .i64 fin] 32 rfl)
        have HONE : Hid (∀ u ∈ ([.int .i64 kind, .string nm1, .bool told, .slice g4 q cap4, .int .i64 beg, .int .i64 fin] : List Value), u.oneCell' = true) := Lib.hid (by intro u hu; simp at hu; rcases hu with rfl | rfl | rfl | rfl | rfl | rfl <;> rfl)
        have hzy : w.heap.size + 2 ≤ wY.heap.size := by have := HBY.out.size; omega
        have HRY := Lib.hid (HRX.out.below HBY.out)
        have HWY := Lib.hid hwY
        have y0 := HOX.out.1 0 _ rfl
        have y1 := HOX.out.1 1 _ rfl
        have y2 := HOX.out.1 2 _ rfl
        have y3 := HOX.out.1 3 _ rfl
        have y4 := HOX.out.1 4 _ rfl
        have y5 := HOX.out.1 5 _ rfl
        clear hwY
        go_wp2_with (at_builtin; rw [← HWY.out]; refine append_rowG (base := w.heap.size + 2) (size := 6) (xs := ccells j cv') Tryd.underlying22 info_call rfl (by decide) rfl _ _ rfl rfl HRY.out rfl HSLY.out HONE.out ?_ ?_ ?_ ?_; omega; omega; exact hzy)
        intro v7 w7 hr7 hb7 hg7
        have HI7 : Hid (ShI w.heap.size (w.heap.size + 2) n cv nm w7 (j + 1) v7 K' (fun k => if k = j then ⟨kind, nm1, told, g4, q, cap4, beg, fin⟩ else cv' k) (fun k => if k = j then ns' else nm' k)) := Lib.hid (HI.out.step (by omega) hzw (HGX.out.up HBY.out) (HMX.out.below HBY.out) HTX.out HLX.out (by rw [HCJ.out, HNSJ.out]; exact HSX.out) (HNX.out.gr (by omega) (Gr.up (Gr.refl _ _) HBY.out) (by omega)) HRY.out hr7 hg7 hb7)
        have HB7 := Lib.hid (HBX.out.trans ((HBY.out.mono (by omega)).trans (hb7.mono (by omega))))
        have hz7 : w.heap.size + 2 ≤ w7.heap.size := by have := hb7.size; omega
        clear hr7 hb7 hg7 y0 y1 y2 y3 y4 y5 HSLY HRY HRX
        go_wp2_with (fail)
        go_roundw
        case rel => exact ⟨j + 1, _, _, _, rfl, by omega, HI7, HB7, hz7⟩
        case measure => simp [intOf] <;> omega
      have e1 : decide (q < nn) = true := decide_eq_true hql
      have e2 : decide ((q : Int) < (nn : Int)) = true := decide_eq_true (by omega)
      have e3 : IntKind.i64.wrap ((q : Int) + 1) = (q : Int) + 1 := IntWalk.i64_in _ (by omega)
      have e4 : (q : Int) < (nn : Int) := by omega
      obtain ⟨g, gcap, hv4, hgc, hgb, hgl, hgcells⟩ := row_one HN.out.row (by omega)
      injection hv4 with hv4 _ hv5
      subst hv4 hv5
      have hql2 : q < ns.length := by have := HNL.out; omega
      obtain ⟨s, hs⟩ : ∃ s, ns[q]? = some s := ⟨_, List.getElem?_eq_getElem hql2⟩
      have hssz : s.size ≤ maxLen := HSZ.out s (List.mem_of_getElem? hs)
      have hk0 : wq.cell? ⟨g, q, none⟩ = some (.string s) := hgcells q _ (by unfold scells; rw [List.getElem?_map, HN.out.hi q (Nat.le_refl _), hs]; rfl)
      have hz0 := HN.out.lt
      have y3 := HN.out.own.1 3 _ rfl
      have hfg : wq.frozen? ⟨g, q, none⟩ = false := World.ownsRow.frozenAt HN.out.row q
      have hgx : g < wq.heap.size := hgl
      have HS := Lib.hid hs
      have hkl : K'.length < 99 := by have := HN.out.len; have := HL2.out; have := HK9.out; omega
      have HSH : Hid (∀ W, Below wq.heap.size wq W → Calls Tryd.prog 37 #[.string s, .pointer (some ⟨w.heap.size + 1, 0, none⟩)] W fun e w' => e = .returned (.string (dgs (ixL (addK K' s) s))) ∧ MapK w' w.heap.size (addK K' s) ∧ Gr w.heap.size wq w') := Lib.hid (fun W hW => by
        refine (short_any (w.heap.size + 1) w.heap.size K' s W ((hW.cell (p := ⟨w.heap.size + 1, 0, none⟩) (by show w.heap.size + 1 < _; omega)).trans HN.out.pb) (HN.out.map.below hW) hssz hkl).mono ?_
        rintro e w' ⟨h1, h2, h3⟩
        exact ⟨h1, h2, Gr.trans (Gr.up (Gr.refl _ _) hW) h3⟩)
      clear hs hgcells hql2 hkl
      go_upto_region 13 with (fail)
      go_region_with ((go_at_call 37; refine (HSH.out _ (by first | exact Below.refl _ _ | exact (Below.refl _ _).drew | exact below_drewN (Below.refl _ _) _)).mono ?_; rintro e w9 ⟨rfl, hm9, hg9⟩; have hz9 := hg9.size; have y39 := (World.cell?_of_block (w := wq) (a := ⟨wo.heap.size, 3, none⟩) (hg9.block wo.heap.size (by omega) (by simp; omega))).trans y3; have hf9 : w9.frozen? ⟨g, q, none⟩ = false := (World.frozen?_of_block (w := wq) (a := ⟨g, q, none⟩) (hg9.block g hgx (by simp; omega))).trans hfg; have HM9 := Lib.hid hm9; have HG9 := Lib.hid hg9; have hk9 : w9.cell? ⟨g, q, none⟩ = some (.string s) := (World.cell?_of_block (w := wq) (a := ⟨g, q, none⟩) (hg9.block g hgx (by simp; omega))).trans hk0; clear hm9 hg9))
      all_goals have HN9 := Lib.hid ((HN.out.step HS.out HG9.out HM9.out (by omega) hz3 hgb (Nat.le_refl _) (by omega)))
      all_goals go_wp2_with (fail)
      all_goals go_roundw
      all_goals first
        | exact ⟨q + 1, _, _, rfl, by omega, HN9⟩
        | exact ⟨q + 1, _, _, rfl, by omega, Lib.hid (HN9.out.below (Below.refl _ _).drew (by omega) hz3)⟩
        | exact ⟨q + 1, _, _, rfl, by omega, Lib.hid (HN9.out.below (below_drewN (Below.refl _ _) _) (by omega) hz3)⟩
        | (simp [intOf] <;> omega)
end Go.Proofs.YtmcbgjkogggneaaDoor
