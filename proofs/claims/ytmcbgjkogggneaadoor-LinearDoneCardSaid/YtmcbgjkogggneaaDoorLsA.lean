/- linear.shorten's short names. -/
import Derived.Test.YtmcbgjkogggneaaDoorLkL
import Derived.Test.YtmcbgjkogggneaaDoorShelf
namespace Go.Proofs.YtmcbgjkogggneaaDoor
set_option maxRecDepth 100000
set_option linter.unusedVariables false
set_option linter.unusedSimpArgs false
open Go.RowKit Go.Maps Go.WideMaps
/-- The short name of a number. -/
def dgs (i : Nat) : ByteArray := ⟨(Lib.decDigits i).toArray⟩
def undg (l : List UInt8) : Nat := l.foldl (fun a c => a * 10 + (c.toNat - 48)) 0
theorem dgs_inj {i j : Nat} (hi : i < 100) (hj : j < 100) (h : dgs i = dgs j) : i = j := by
  have key : ∀ i, i < 100 → undg (Lib.decDigits i) = i := by
    have : ∀ i ∈ List.range 100, undg (Lib.decDigits i) = i := by decide +kernel
    exact fun i hi => this i (List.mem_range.2 hi)
  have e : (Lib.decDigits i).toArray = (Lib.decDigits j).toArray := congrArg ByteArray.data h
  have e2 : Lib.decDigits i = Lib.decDigits j := by simpa using e
  rw [← key i hi, ← key j hj, e2]
theorem dgs_size {i : Nat} (hi : i < 100) : (dgs i).size ≤ maxLen := by
  have : ∀ i ∈ List.range 100, (dgs i).size ≤ 10 := by decide +kernel
  have h := this i (List.mem_range.2 hi)
  unfold maxLen
  omega
/-- The number of a name. -/
def ixL : List ByteArray → ByteArray → Nat
  | [], _ => 0
  | a :: r, s => if a = s then 0 else ixL r s + 1
theorem hasL_cons (a : ByteArray) (r : List ByteArray) (s : ByteArray) : hasL (a :: r) s = (decide (a = s) || hasL r s) := by
  unfold hasL
  rw [List.any_cons]
theorem ixL_lt {K : List ByteArray} {s : ByteArray} (h : hasL K s = true) : ixL K s < K.length := by
  induction K with
  | nil => cases h
  | cons a r ih =>
    rw [hasL_cons] at h
    unfold ixL
    by_cases e : a = s
    · rw [if_pos e]; simp
    · rw [if_neg e]
      rw [decide_eq_false e, Bool.false_or] at h
      have := ih h
      simp
      exact this
theorem ixL_app {K : List ByteArray} (T : List ByteArray) {s : ByteArray} (h : hasL K s = true) : ixL (K ++ T) s = ixL K s := by
  induction K with
  | nil => cases h
  | cons a r ih =>
    rw [hasL_cons] at h
    rw [List.cons_append]
    unfold ixL
    by_cases e : a = s
    · rw [if_pos e, if_pos e]
    · rw [if_neg e, if_neg e]
      rw [decide_eq_false e, Bool.false_or] at h
      rw [ih h]
theorem hasL_app {K : List ByteArray} (T : List ByteArray) {s : ByteArray} (h : hasL K s = true) : hasL (K ++ T) s = true := by
  unfold hasL at h ⊢
  rw [List.any_append, h, Bool.true_or]
theorem ixL_new {K : List ByteArray} {s : ByteArray} (h : hasL K s = false) : ixL (K ++ [s]) s = K.length := by
  induction K with
  | nil => simp [ixL]
  | cons a r ih =>
    rw [hasL_cons, Bool.or_eq_false_iff] at h
    rw [List.cons_append]
    unfold ixL
    rw [if_neg (of_decide_eq_false h.1), ih h.2]
    rfl
theorem ixL_inj {K : List ByteArray} {s t : ByteArray} (hs : hasL K s = true) (ht : hasL K t = true) (h : ixL K s = ixL K t) : s = t := by
  induction K with
  | nil => cases hs
  | cons a r ih =>
    rw [hasL_cons] at hs ht
    unfold ixL at h
    by_cases e : a = s
    · by_cases e2 : a = t
      · exact e.symm.trans e2
      · rw [if_pos e, if_neg e2] at h; omega
    · by_cases e2 : a = t
      · rw [if_neg e, if_pos e2] at h; omega
      · rw [if_neg e, if_neg e2] at h
        rw [decide_eq_false e, Bool.false_or] at hs
        rw [decide_eq_false e2, Bool.false_or] at ht
        exact ih hs ht (by omega)
def addK (K : List ByteArray) (s : ByteArray) : List ByteArray := if hasL K s then K else K ++ [s]
theorem addK_has (K : List ByteArray) (s : ByteArray) : hasL (addK K s) s = true := by
  unfold addK
  by_cases h : hasL K s = true
  · rw [if_pos h]; exact h
  · rw [if_neg h, hasL_snoc]; simp
theorem addK_ext (K : List ByteArray) (s : ByteArray) : ∃ T, addK K s = K ++ T := by
  unfold addK
  by_cases h : hasL K s = true
  · rw [if_pos h]; exact ⟨[], by simp⟩
  · rw [if_neg h]; exact ⟨_, rfl⟩
theorem addK_len (K : List ByteArray) (s : ByteArray) : (addK K s).length ≤ K.length + 1 := by
  unfold addK
  split <;> simp
/-- The numbers that names have. -/
def MapK (w : World) (b : Nat) (K : List ByteArray) : Prop :=
  ∃ D n, Mp w b n D ∧ n ≤ K.length ∧ Maps.size D = K.length ∧ ∀ s : ByteArray, s.size ≤ maxLen → Maps.has D (keyL s) = hasL K s ∧ (hasL K s = true → D.atKey (keyL s) (.lit (.int .i64 0)) = .lit (.int .i64 (ixL K s : Nat)))
theorem MapK.kept {w w' : World} {b : Nat} {K : List ByteArray} {row : Option Nat} (h : MapK w b K) (hg : w.grownBy w' row) (hr : some b ≠ row) : MapK w' b K := by
  obtain ⟨D, n, h1, h2, h3, h4⟩ := h
  exact ⟨D, n, World.ownsMap.kept h1 hg hr, h2, h3, h4⟩
theorem MapK.below {w w' : World} {b : Nat} {K : List ByteArray} (h : MapK w b K) (hb : Below w.heap.size w w') : MapK w' b K := h.kept (grown_of_below' hb) (by simp)
theorem MapK.put {w' : World} {b n : Nat} {K : List ByteArray} {D : DataW Unit} {s : ByteArray} (hs : s.size ≤ maxLen) (hm : Mp w' b (n + 1) (D.put (keyL s) (.lit (.int .i64 (K.length : Nat))))) (hn : n ≤ K.length) (ht : Tidy D) (hD : IsMap D) (hz : Maps.size D = K.length) (hh : hasL K s = false)
    (h : ∀ s : ByteArray, s.size ≤ maxLen → Maps.has D (keyL s) = hasL K s ∧ (hasL K s = true → D.atKey (keyL s) (.lit (.int .i64 0)) = .lit (.int .i64 (ixL K s : Nat)))) : MapK w' b (addK K s) := by
  unfold addK
  rw [hh]
  refine ⟨_, _, hm, by simp; exact hn, ?_, fun t htt => ⟨has_put (D := D) hD (fun s hs => (h s hs).1) t htt, fun hq => ?_⟩⟩
  · rw [size_put ht, (h s hs).1, hh]
    simp [hz]
  · simp only [Bool.false_eq_true, if_false] at hq ⊢
    by_cases e : s = t
    · subst e
      rw [atKey_put_same hD (by unfold keyL; simp [WideAt.IsKeyLit]), ixL_new hh]
    · rw [atKey_put_other (fun h => e (keyL_inj.1 h).symm)]
      rw [hasL_snoc, decide_eq_false e, Bool.or_false] at hq
      rw [(h t htt).2 hq, ixL_app _ hq]
set_option maxHeartbeats 2000000 in
theorem short_any (pb mb : Nat) (K : List ByteArray) (s : ByteArray) (w : World) (hp : w.cell? ⟨pb, 0, none⟩ = some (.map (some mb))) (hm : MapK w mb K) (hs : s.size ≤ maxLen) (hK : K.length < 99) :
    Calls Tryd.prog 37 #[.string s, .pointer (some ⟨pb, 0, none⟩)] w fun e w' => e = .returned (.string (dgs (ixL (addK K s) s))) ∧ MapK w' mb (addK K s) ∧ w.grownBy w' (some mb) := by
  have HMK := Lib.hid hm
  obtain ⟨D, n, hm, hn, hz, hh⟩ := hm
  have HM := Lib.hid hm
  have HK := Lib.hid (keyL_of hs)
  have HTD := Lib.hid (World.ownsMap.tidy hm law)
  have HH := Lib.hid hh
  have HZ := Lib.hid hz
  obtain ⟨b, hb⟩ : ∃ b, hasL K s = b := ⟨_, rfl⟩
  have hhb : Maps.has D (keyL s) = b := (hh s hs).1.trans hb
  have HB := Lib.hid hb
  have HHB := Lib.hid hhb
  clear hm hh hz hhb hb
  cases b with
  | true =>
    have HI : Hid (ixL K s < 100) := Lib.hid (by have := ixL_lt HB.out; omega)
    go_enter Tryd.func37, Tryd.ntmps37
    go_wp2_with (first
      | (at_lookup; refine wpList_lookup_own_ok_int _ rfl _ _ 67 rfl 9 3 .i64 law Tryd.underlying67 Tryd.underlying3 (zeroE _) mb n _ rfl HM.out _ _ rfl HK.out ?_; intro c hat hwc; have hcc : c = (ixL K s : Nat) := (by have h2 := ((HH.out s hs).2 HB.out).symm.trans hat; injection h2 with h2; injection h2 with _ h2; exact h2.symm); clear hat hwc; subst hcc; rw [HHB.out])
      | (go_at_call 38; refine (Tryd.strconv_Itoa_small (ixL K s) HI.out _).mono ?_; rintro e w' ⟨rfl, rfl⟩))
    go_ret
    have e1 : addK K s = K := by unfold addK; rw [if_pos HB.out]
    rw [e1]
    exact ⟨rfl, HMK.out, World.grownBy.refl _ _⟩
  | false =>
    have hk99 : K.length < 100 := by omega
    have HI := Lib.hid hk99
    have hwf : (Lit.int .i64 (K.length : Int)).wf = true := WalkArith.wf_i64 (by omega)
    go_enter Tryd.func37, Tryd.ntmps37
    go_wp2_with (first
      | (at_lookup; refine wpList_lookup_own_ok_int _ rfl _ _ 67 rfl 9 3 .i64 law Tryd.underlying67 Tryd.underlying3 (zeroE _) mb n _ rfl HM.out _ _ rfl HK.out ?_; intro c hat hwc; rw [HHB.out]; clear hat hwc)
      | (at_len; refine wpList_len_own _ rfl _ 67 rfl 9 3 Tryd.underlying67 _ mb n _ rfl HM.out ?_; rw [HZ.out])
      | (at_mapUpdate; refine wpList_mapUpdate_own _ rfl _ _ _ 67 rfl 9 3 law Tryd.underlying67 _ mb n _ rfl HM.out (by unfold maxLen; omega) _ _ _ rfl rfl HK.out _ [] (plainElem_int Tryd.underlying3 hwf) ?_; intro w1 hown1 hgrow1; have HG := Lib.hid hgrow1; have HO1 := Lib.hid hown1; clear hown1 hgrow1)
      | (go_at_call 38; refine (Tryd.strconv_Itoa_small K.length HI.out _).mono ?_; rintro e w' ⟨rfl, rfl⟩))
    go_ret
    have e1 : addK K s = K ++ [s] := by unfold addK; rw [HB.out]; rfl
    refine ⟨?_, MapK.put hs HO1.out hn HTD.out HTD.out.isMap HZ.out HB.out HH.out, HG.out⟩
    rw [e1, ixL_new HB.out]
    rfl
end Go.Proofs.YtmcbgjkogggneaaDoor
