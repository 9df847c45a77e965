/- The walk of TrapFirst. -/
import Derived.Test.YtkoimdlnkaphcaaTrapI
namespace Go.Proofs.Ytkoimdlnkaphcaa
open Go.RowKit Plain
theorem info_fn : (Try.prog.info? 41).map (fun i => (i.zero, i.size, i.bytes)) = some (some .nilFunc, 1, 8) := by kernel_rfl
theorem boxes_grown {w w' : World} {cb : Nat} {gs : List Nat} {l : List St} {base : Nat} {v : Value} {n : Nat} {xs : List Value} (h : Boxes w cb gs l) (hg : w.grownBy w' v.ownBlock) (hown : w.ownsRow base 41 1 v n xs) : Boxes w' cb gs l := by
  refine ⟨h.1, fun j hj => ⟨(h.2 j hj).1, ?_⟩⟩
  have hb := (h.2 j hj).2
  rw [hg.block _ (box_lt hb) ?_]
  · exact hb
  · intro e
    obtain ⟨_, h2⟩ := hown
    rcases h2 with ⟨rfl, _⟩ | ⟨g, cap, cur, rfl, _, hh, _⟩
    · simp [Value.ownBlock] at e
    · simp only [Value.ownBlock, Option.some.injEq] at e
      rw [e, hh] at hb
      injection hb with hb
      injection hb with _ hb _
      exact absurd hb (by decide)
theorem boxes_below {w w' : World} {cb : Nat} {gs : List Nat} {l : List St} (h : Boxes w cb gs l) (hb : Below w.heap.size w w') : Boxes w' cb gs l :=
  ⟨h.1, fun j hj => ⟨(h.2 j hj).1, (hb.block _ (box_lt (h.2 j hj).2)).trans (h.2 j hj).2⟩⟩
theorem boxes_snoc {w : World} {cb g : Nat} {gs : List Nat} {l : List St} {x : St} (h : Boxes w cb gs l) (hne : g ≠ cb) (hg : w.heap[g]? = some (.cells #[.int .i64 x.1, .int .i64 x.2] 38 (0, 0))) : Boxes w cb (gs ++ [g]) (l ++ [x]) := by
  refine ⟨by simp [h.1], fun j hj => ?_⟩
  by_cases hj' : j < l.length
  · have := h.2 j hj'
    rw [show (gs ++ [g]).getD j 0 = gs.getD j 0 from by simp [List.getElem?_append, h.1, hj'], show (l ++ [x]).getD j (0, 0) = l.getD j (0, 0) from by simp [List.getElem?_append, hj']]
    exact this
  · have hjl : j = l.length := by simp at hj; omega
    rw [show (gs ++ [g]).getD j 0 = g from by simp [hjl, ← h.1], show (l ++ [x]).getD j (0, 0) = x from by simp [hjl]]
    exact ⟨hne, hg⟩
theorem fst_err : ∀ l : List St, fst l < l.length → ¬ err (l.getD (fst l) (0, 0)) = 0
  | [], h => by simp at h
  | x :: xs, h => by
    unfold fst at h ⊢
    by_cases he : err x = 0
    · rw [if_pos he] at h ⊢
      simpa using fst_err xs (by simpa using h)
    · rw [if_neg he]; simpa using he
theorem take_snoc' {l : List St} {j : Nat} (h : j < l.length) : l.take (j + 1) = l.take j ++ [l.getD j (0, 0)] := by
  rw [List.take_succ_eq_append_getElem h]; simp [h]
def Rel1 (l : List St) (wv iv : Value) : Prop := ∃ j : Nat, j ≤ l.length ∧ iv = .int .i64 ((j : Int) - 1) ∧ wv = .int .i64 ((j + fst (l.drop j) : Nat) : Int)
def Rel2 (w1 : World) (l : List St) (v iv : Value) (wr : World) : Prop :=
  ∃ (j : Nat) (gs : List Nat), j ≤ l.length ∧ iv = .int .i64 j ∧ wr.ownsRow w1.heap.size 41 1 v j (gs.map (clo w1.heap.size)) ∧ Boxes wr w1.heap.size gs (l.take j) ∧ wr.heap[w1.heap.size]? = some (.cells #[.int .i64 0] 3 (0, 0)) ∧ Below w1.heap.size w1 wr
set_option maxRecDepth 100000 in
set_option maxHeartbeats 2000000 in
theorem trapFirst_short (b off cap : Nat) (l : List St) (w : World) (hl : l.length ≤ 50) (hl0 : 0 < l.length) (hb : b < w.heap.size) (hs : StepsAt w b off l) :
    Calls Try.prog 5 #[.slice (some ⟨b, off, none⟩) l.length cap] w fun e w' => e = .returned (.bool true) ∧ Below w.heap.size w w' := by
  have hmf : ∀ (fn : Fn) (first cap : Array Value) (w : World), (Instr.makeFunc fn first cap).run Try.prog w = .ok (.func fn first cap) w := fun _ _ _ _ => rfl
  obtain ⟨i0, hi, hz0, hz1, hz2⟩ := info_parts info_fn
  have HS := Lib.hid hs
  clear hs
  go_enter Try.func5, Try.ntmps5
  go_wp2_with fail
  refine (awake_any _).mono ?_
  rintro e w1 ⟨rfl, hb1⟩
  have hs1 : StepsAt w1 b off l := fun j hj => by
    rw [hb1.cell (p := ⟨b, _, none⟩) hb, hb1.cell (p := ⟨b, _, none⟩) hb]; exact HS.out j hj
  have HS1 := Lib.hid hs1
  have hb' : b < w1.heap.size := by have := hb1.size; omega
  have HB1 := Lib.hid hb1
  clear hs1 hb1
  go_wp2
  go_loop [5, 7] (fun wv iv => Rel1 l wv iv) (fun _ iv => (intOf iv + 1).toNat)
  case atStart =>
    refine ⟨l.length, Nat.le_refl _, rfl, ?_⟩
    rw [List.drop_length]; rfl
  case round =>
    obtain ⟨j, hj, rfl, rfl⟩ := hrel
    by_cases hlt : 0 < j
    · obtain ⟨i, rfl⟩ : ∃ i, j = i + 1 := ⟨j - 1, by omega⟩
      have hsz : (w1.alloc (.cells #[.int .i64 0] 3)).cell? ⟨b, off + i * 2, none⟩ = some (.int .i64 (l.getD i (0, 0)).1) ∧ (w1.alloc (.cells #[.int .i64 0] 3)).cell? ⟨b, off + i * 2 + 1, none⟩ = some (.int .i64 (l.getD i (0, 0)).2) :=
        ⟨cell_alloc_old (HS1.out i (by omega)).1 hb' _, cell_alloc_old (HS1.out i (by omega)).2 hb' _⟩
      obtain ⟨c0, c1⟩ := hsz
      have HST := Lib.hid (fst_step (show i < l.length by omega))
      have hfle := fst_le (l.drop (i + 1))
      rw [List.length_drop] at hfle
      generalize l.getD i (0, 0) = x at *
      obtain ⟨k, c⟩ := x
      rw [show ((i + 1 : Nat) : Int) - 1 = (i : Int) from by omega]
      have hd : bits .and .i64 c 63 = low6 c := rfl
      go_wp2
      · have hk : k = 1 := by assumption
        have he : ¬ err (k, c) = 0 := by have := low6_bd c; simp only [err, hk, if_true]; omega
        go_round
        case rel => exact ⟨i, by omega, rfl, by have h1 := HST.out; rw [if_neg he] at h1; rw [h1]; rfl⟩
        case measure => simp [intOf]
      · have hk1 : ¬ k = 1 := by assumption
        have hk2 : k = 2 := by assumption
        have hk3 : (low6 c != 0) = true := by assumption
        have he : ¬ err (k, c) = 0 := by simp [err, hk2]; simpa using hk3
        go_round
        case rel => exact ⟨i, by omega, rfl, by have h1 := HST.out; rw [if_neg he] at h1; rw [h1]; rfl⟩
        case measure => simp [intOf]
      · have hk1 : ¬ k = 1 := by assumption
        have hk2 : k = 2 := by assumption
        have hk3 : (low6 c != 0) = false := by assumption
        have he : err (k, c) = 0 := by simp [err, hk2]; simpa using hk3
        go_round
        case rel => exact ⟨i, by omega, rfl, by have h1 := HST.out; rw [if_pos he] at h1; rw [h1]; congr 1; omega⟩
        case measure => simp [intOf]
      · have hk1 : ¬ k = 1 := by assumption
        have hk2 : ¬ k = 2 := by assumption
        have he : err (k, c) = 0 := by simp only [err, hk1, hk2, if_false]
        go_round
        case rel => exact ⟨i, by omega, rfl, by have h1 := HST.out; rw [if_pos he] at h1; rw [h1]; congr 1; omega⟩
        case measure => simp [intOf]
    · obtain rfl : j = 0 := by omega
      have hfl := fst_le l
      rw [List.drop_zero, Nat.zero_add, show ((0 : Nat) : Int) - 1 = -1 from rfl]
      go_wp2
      go_loopw [4, 8, 9] (fun v iv _ wr => Rel2 w1 l v iv wr) (fun _ iv _ _ => l.length - (intOf iv).toNat)
      case atStart =>
        refine ⟨0, [], Nat.zero_le _, rfl, World.ownsRow_nil _ _ _ _, ⟨rfl, fun j hj => by simp at hj⟩, heap_alloc_new _ _, (Below.refl _ _).alloc (Nat.le_refl _) _⟩
      case round =>
        obtain ⟨j, gs, hj, rfl, hown, hbx, hcb, hbel⟩ := hrel
        by_cases hlt2 : j < l.length
        · obtain ⟨c0, c1⟩ := HS1.out j hlt2
          rw [← hbel.cell (p := ⟨b, _, none⟩) hb'] at c0 c1
          have HBX := Lib.hid hbx
          have HCB := Lib.hid hcb
          have HTS := Lib.hid (take_snoc' hlt2)
          clear hbx hcb
          generalize l.getD j (0, 0) = x at *
          obtain ⟨k, c⟩ := x
          have hwl : w1.heap.size < wr.heap.size := box_lt HCB.out
          have hsz := hbel.size
          go_wp2_with (at_builtin; refine wpList_append_own _ rfl _ _ 36 rfl w1.heap.size 41 i0 .nilFunc 1 8 Try.underlying36 hi hz0 hz1 hz2 rfl (by decide) _ _ _ rfl ((hown.alloc _).alloc _) ⟨wr.heap.size + 1, 0, none⟩ 1 1 [clo w1.heap.size wr.heap.size] rfl rfl ?c1 ?c2 ?c3 ?c4 ?c5 ?_)
          case c1 =>
            intro j u hj
            match j, hj with
            | 0, hj => simp at hj; subst hj; simp [clo]
          case c2 => exact rfl
          case c3 => unfold maxLen; omega
          case c4 => omega
          case c5 => omega
          intro v' w2 hown' hgrow _
          have hb2 : Below wr.heap.size wr ((wr.alloc (.cells #[.int .i64 k, .int .i64 c] 38)).alloc (.cells #[clo w1.heap.size wr.heap.size] 41)) := ((Below.refl _ _).alloc (Nat.le_refl _) _).alloc (by simp) _
          have hbx2 : Boxes w2 w1.heap.size (gs ++ [wr.heap.size]) (l.take j ++ [(k, c)]) := by
            refine boxes_grown ?_ hgrow ((hown.alloc _).alloc _)
            refine boxes_snoc (boxes_below HBX.out hb2) (by omega) ?_
            rw [Below.heap_alloc _ _ _ (by simp)]; exact heap_alloc_new _ _
          have hcb2 : w2.heap[w1.heap.size]? = some (.cells #[.int .i64 0] 3 (0, 0)) := by
            rw [hgrow.block _ (by simp; omega) ?_]
            · exact (hb2.block _ hwl).trans HCB.out
            · intro e
              have h4 := HCB.out
              obtain ⟨_, h2⟩ := hown
              rcases h2 with ⟨h5, _⟩ | ⟨g, cap, cur, h5, _, hh, _⟩
              · rw [h5] at e; simp [Value.ownBlock] at e
              · rw [h5] at e
                simp only [Value.ownBlock, Option.some.injEq] at e
                rw [e, hh] at h4
                injection h4 with h4
                injection h4 with _ h4 _
                exact absurd h4 (by decide)
          have hbel2 : Below w1.heap.size w1 w2 := Below.grown (hbel.trans (hb2.mono (by omega))) hgrow (by simp; omega) (fun k hk => (hown.lt k hk).1)
          have HX := Lib.hid (And.intro hbx2 (And.intro hcb2 hbel2))
          clear hb2 hbx2 hcb2 hbel2 hgrow hown hbel
          go_wp2
          go_roundw
          case rel =>
            refine ⟨j + 1, gs ++ [wr.heap.size], by omega, by go_num, ?_, ?_, HX.out.2.1, HX.out.2.2⟩
            · rw [List.map_append]; exact hown'
            · rw [HTS.out]; exact HX.out.1
          case measure => simp [intOf]; omega
        · obtain rfl : j = l.length := by omega
          rw [List.take_length] at hbx
          obtain ⟨hgl1, hown2⟩ := hown
          rcases hown2 with ⟨_, h0⟩ | ⟨g, cap', cur, hv, hgB, hh, hnc, _, hcs, htk⟩
          · omega
          rw [hv]
          have hgl := box_lt hh
          have hgne : g ≠ w1.heap.size := by
            rintro rfl
            rw [hcb] at hh
            injection hh with hh
            injection hh with _ hh _
            exact absurd hh (by decide)
          have hfr : FRow wr g w1.heap.size gs := by
            intro i hi'
            have h1 : cur.toList[i]? = some (clo w1.heap.size (gs.getD i 0)) := by
              have h2 : (cur.toList.take (l.length * 1))[i]? = some (clo w1.heap.size (gs.getD i 0)) := by rw [htk]; simp [hi']
              rw [List.getElem?_take] at h2
              split at h2
              · exact h2
              · cases h2
            simp only [World.cell?, hh]
            simpa using h1
          have hcc : wr.cell? ⟨w1.heap.size, 0, none⟩ = some (.int .i64 0) := by simp [World.cell?, hcb]
          have hcz : wr.frozen? ⟨w1.heap.size, 0, none⟩ = false := by simp [World.frozen?, hcb]
          have hwl : w1.heap.size < wr.heap.size := box_lt hcb
          have HBX := Lib.hid hbx
          have HFR := Lib.hid hfr
          have HCZ := Lib.hid hcz
          have CC := hcc
          clear hbx hfr hcz hcc hgl1 hv hh hcs htk hcb
          by_cases hf : fst l < l.length
          · obtain ⟨c0, c1⟩ := HS1.out (fst l) hf
            rw [← hbel.cell (p := ⟨b, _, none⟩) hb'] at c0 c1
            have hea := errAt_at rfl hf rfl
            have hne0 := fst_err l hf
            generalize l.getD (fst l) (0, 0) = x at *
            obtain ⟨k, c⟩ := x
            have hd : bits .and .i64 c 63 = low6 c := rfl
            have hlow := low6_bd c
            by_cases hk1 : k = 1
            · have b1 : (k == 1) = true := by simp [hk1]
              have hea2 : errAt l = 1 + low6 c := by rw [hea]; simp [err, hk1]
              have HEA := Lib.hid hea2
              clear hea hea2 hne0 hk1
              have y2 : (1 + low6 c == 1 + low6 c) = true := by simp
              go_wp2_with (go_at_call 21; refine (code_any c _).mono ?_; rintro e w' ⟨rfl, rfl⟩)
              refine (first_any w1.heap.size g cap' gs l _ hl (by omega) hgl hgne HBX.out HFR.out CC HCZ.out).mono ?_
              rintro e w2 ⟨rfl, h2, h3⟩
              rw [HEA.out]
              have hmin : ((min (fst l + 1) l.length : Nat) : Int) = (fst l : Int) + 1 := by omega
              rw [hmin] at h2
              have HFIN := Lib.hid (HB1.out.trans ((hbel.trans (gr_below h3 _ (by omega) (by simp))).mono (by have := HB1.out.size; omega)))
              clear h3 hmin hbel CC
              have y1 : ((fst l : Int) == (fst l : Int)) = true := by simp
              have y3 : ((fst l : Int) + 1 == (fst l : Int) + 1) = true := by simp
              go_wp2
              go_ret
              exact ⟨by simp, HFIN.out⟩
            · have b1 : (k == 1) = false := by simp [hk1]
              have hk2 : k = 2 := by
                by_cases h : k = 2
                · exact h
                · exfalso; apply hne0; simp [err, hk1, h]
              have hea2 : errAt l = low6 c := by rw [hea]; simp [err, hk2]
              have HEA := Lib.hid hea2
              clear hea hea2 hne0 hk1 hk2
              have y2 : (low6 c == low6 c) = true := by simp
              go_wp2_with fail
              refine (first_any w1.heap.size g cap' gs l _ hl (by omega) hgl hgne HBX.out HFR.out CC HCZ.out).mono ?_
              rintro e w2 ⟨rfl, h2, h3⟩
              rw [HEA.out]
              have hmin : ((min (fst l + 1) l.length : Nat) : Int) = (fst l : Int) + 1 := by omega
              rw [hmin] at h2
              have HFIN := Lib.hid (HB1.out.trans ((hbel.trans (gr_below h3 _ (by omega) (by simp))).mono (by have := HB1.out.size; omega)))
              clear h3 hmin hbel CC
              have y1 : ((fst l : Int) == (fst l : Int)) = true := by simp
              have y3 : ((fst l : Int) + 1 == (fst l : Int) + 1) = true := by simp
              go_wp2
              go_ret
              exact ⟨by simp, HFIN.out⟩
          · have hfe : fst l = l.length := by omega
            have HEA := Lib.hid (errAt_none hfe)
            have HFE := Lib.hid hfe
            clear hfe
            go_wp2_with fail
            refine (first_any w1.heap.size g cap' gs l _ hl (by omega) hgl hgne HBX.out HFR.out CC HCZ.out).mono ?_
            rintro e w2 ⟨rfl, h2, h3⟩
            rw [HEA.out]
            have hmin : ((min (fst l + 1) l.length : Nat) : Int) = (l.length : Int) := by omega
            rw [hmin] at h2
            have HFIN := Lib.hid (HB1.out.trans ((hbel.trans (gr_below h3 _ (by omega) (by simp))).mono (by have := HB1.out.size; omega)))
            clear h3 hmin hbel CC
            have y1 : ((fst l : Int) == (fst l : Int)) = true := by simp
            have y3 : ((l.length : Int) == (l.length : Int)) = true := by simp
            go_wp2
            go_ret
            exact ⟨by simp, HFIN.out⟩
set_option maxRecDepth 100000 in
set_option maxHeartbeats 1000000 in
theorem trapFirst_nil (a : Option Addr) (cap : Nat) (w : World) :
    Calls Try.prog 5 #[.slice a 0 cap] w fun e w' => e = .returned (.bool true) ∧ Below w.heap.size w w' := by
  go_enter Try.func5, Try.ntmps5
  go_wp2_with fail
  refine (awake_any _).mono ?_
  rintro e w1 ⟨rfl, hb1⟩
  have hs := hb1.size
  have HB := Lib.hid hb1
  clear hb1
  go_wp2_with fail
  refine wp_loop_rounds 1 ?_
  rw [rounds_succ]
  go_wp2_with fail
  refine wp_loop_rounds 1 ?_
  rw [rounds_succ]
  go_wp2_with fail
  refine (first_nil _ _ _).mono ?_
  rintro e w2 ⟨rfl, rfl⟩
  go_wp2
  go_ret
  exact ⟨by simp, HB.out.alloc hs _⟩
set_option maxRecDepth 100000 in
set_option maxHeartbeats 1000000 in
theorem trapFirst_long (a : Option Addr) (n cap : Nat) (w : World) (hl : 50 < n) :
    Calls Try.prog 5 #[.slice a n cap] w fun e w' => e = .returned (.bool true) ∧ Below w.heap.size w w' := by
  go_enter Try.func5, Try.ntmps5
  go_wp2_with fail
  refine (awake_any _).mono ?_
  rintro e w1 ⟨rfl, hb1⟩
  have HB := Lib.hid hb1
  clear hb1
  go_wp2
  go_ret
  exact ⟨rfl, HB.out⟩
theorem trapFirst_walk (B : Nat) (v : Value) (l : List St) (w : World) (h : Lst w B v l) (hB : B ≤ w.heap.size) :
    Calls Try.prog 5 #[v] w fun e w' => e = .returned (.bool true) ∧ Below w.heap.size w w' := by
  rcases h with ⟨a, cap, rfl, rfl⟩ | ⟨b, off, cap, rfl, h2, h3, h4⟩
  · exact trapFirst_nil a cap w
  · by_cases hl : l.length ≤ 50
    · by_cases h0 : 0 < l.length
      · exact trapFirst_short b off cap l w hl h0 (by omega) h4
      · rw [show l.length = 0 from by omega]
        exact trapFirst_nil _ cap w
    · exact trapFirst_long _ _ cap w (by omega)
end Go.Proofs.Ytkoimdlnkaphcaa
