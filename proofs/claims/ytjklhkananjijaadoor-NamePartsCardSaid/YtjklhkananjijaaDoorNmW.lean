/- NameParts, joined. -/
import Derived.Test.YtjklhkananjijaaDoorNmV
import Derived.Test.YtjklhkananjijaaDoorByt
set_option linter.unusedVariables false
set_option linter.unusedSimpArgs false
namespace Go.Proofs.YtjklhkananjijaaDoor
open Go.RowKit
theorem unj_take : ∀ (x : List (List UInt8)) (k : Nat), (unj (x.take k)).length ≤ (unj x).length
  | [], k => by simp
  | p :: q, 0 => by simp [unj]
  | p :: q, k + 1 => by
    have ih := unj_take q k
    rw [List.take_succ_cons]
    by_cases hq : q = []
    · subst hq; simp
    · rw [unj_cons p q hq]
      by_cases ht : q.take k = []
      · rw [ht]; simp [unj]
      · rw [unj_cons p _ ht]
        simp only [List.length_append, List.length_cons]
        omega
theorem unj_mem : ∀ (x : List (List UInt8)) (p : List UInt8), p ∈ x → p.length ≤ (unj x).length
  | [], p, h => by simp at h
  | a :: q, p, h => by
    by_cases hq : q = []
    · subst hq
      simp at h
      subst h
      simp [unj]
    · rw [unj_cons a q hq]
      simp only [List.length_append, List.length_cons]
      rcases List.mem_cons.1 h with rfl | h
      · omega
      · have := unj_mem q p h
        omega
theorem str_data (l : List UInt8) : (str l).data.toList = l := rfl
theorem app_data (a b : ByteArray) : (a ++ b).data.toList = a.data.toList ++ b.data.toList := by
  rw [ByteArray.data_append, Array.toList_append]
theorem beq_of {a b : ByteArray} (h : a.data.toList = b.data.toList) : (a.toList == b.toList) = true := by
  rw [ba_ext h]; simp
theorem parts_walk (s : ByteArray) (w : World) (hA : Amb w) (hm : s.size ≤ maxLen) : Calls Tryd.prog 6 #[.string s] w (CQ (.bool true) w) := by
  unfold maxLen at hm
  by_cases hs : 1000 < s.size
  · exact nparts_long s w hA hs hm
  have hs : s.size ≤ 1000 := by omega
  have hl : s.data.toList.length = s.size := Array.length_toList
  have hx := pieces_at s
  have hu := unj_sp s.data.toList
  have hlen : (pieces s).length = (sp s.data.toList).length := by rw [← hx]; simp
  have hat : ∀ k (h : k < (pieces s).length), (sp s.data.toList)[k]? = some ((pieces s)[k]).data.toList := by
    intro k h
    rw [← hx]
    simp [h]
  have hp := pieces_le s
  have H1 : Hid (∀ w, Amb w → Calls Tryd.prog 18 #[.string s] w (PX (pieces s) w)) := Lib.hid fun w h => parts_any s w h (by omega)
  have H2 : Hid (∀ w, Calls Tryd.prog 19 #[.string s] w (PX (pieces s) w)) := Lib.hid fun w => refParts_any s w (by omega)
  have D1 : ∀ h : 1 < (pieces s).length, (⟨#[]⟩ : ByteArray) ++ (pieces s)[0] = str (unj ((sp s.data.toList).take 1)) := by
    intro h
    have := hat 0 (by omega)
    apply ba_ext
    rw [app_data, str_data]
    revert this
    generalize sp s.data.toList = L
    intro this
    cases L with
    | nil => simp at this
    | cons a b => simp at this; subst this; simp [unj]
  have D2 : ∀ k (h : k + 1 < (pieces s).length), 0 < k → (str (unj ((sp s.data.toList).take k)) ++ ⟨#[47]⟩) ++ (pieces s)[k] = str (unj ((sp s.data.toList).take (k + 1))) := by
    intro k h h0
    have := hat k (by omega)
    apply ba_ext
    rw [app_data, app_data, str_data, str_data]
    rw [hlen] at h
    revert this h
    generalize sp s.data.toList = L
    intro h this
    have hk : k < L.length := by omega
    rw [List.getElem?_eq_getElem hk] at this
    injection this with this
    rw [List.take_succ_eq_append_getElem hk, unj_snoc _ _ (by
      intro q
      have := congrArg List.length q
      simp at this
      rcases this with e | e
      · omega
      · subst e; simp at h), this]
    simp
  have DZ : ∀ k, (str (unj ((sp s.data.toList).take k))).size ≤ 1000 := by
    intro k
    have := unj_take (sp s.data.toList) k
    rw [hu] at this
    show (unj ((sp s.data.toList).take k)).length ≤ 1000
    omega
  have XZ : ∀ k (h : k < (pieces s).length), ((pieces s)[k]).size ≤ 1000 := by
    intro k h
    have h1 := unj_mem _ _ (List.mem_of_getElem? (hat k h))
    rw [hu, Array.length_toList] at h1
    have : ((pieces s)[k]).data.size = ((pieces s)[k]).size := rfl
    omega
  rcases last_sl s.data.toList with hn | ⟨p, r, hpr, hr⟩
  · have hi := last_none s hn
    have hsp := sp_none _ hn
    have hone : (pieces s).length = 1 := by rw [hlen, hsp]; rfl
    have h0 := hat 0 (by omega)
    rw [hsp] at h0
    have h00 : ((pieces s)[0]'(by omega)).data.toList = s.data.toList := by simpa using h0.symm
    refine nparts_core s s (pieces s) (fun k => str (unj ((sp s.data.toList).take k))) w hA hs (by omega) (by omega) hs H1 H2 (Lib.hid fun w => base_none s w hs hi) (Lib.hid fun w => ?_) (Lib.hid rfl) (Lib.hid D1) (Lib.hid D2) (Lib.hid DZ) (Lib.hid XZ) (Lib.hid fun h => beq_of ?_) (Lib.hid (.inl ⟨hone, by simp⟩))
    · have e : s.extract 0 0 = str (unj ((sp s.data.toList).take ((pieces s).length - 1))) := by
        rw [hone]
        apply ba_ext
        rw [Lib.extract_data]
        rfl
      rw [← e]
      exact dir_none s w hs hi
    · rw [← h00]
      congr 2
      simp [hone]
  · have hi := last_some s p r hpr hr
    have hsp : sp s.data.toList = sp p ++ [r] := by rw [hpr, sp_append, sp_none r hr]
    have hpl : 0 < (sp p).length := List.length_pos_iff.2 (sp_ne p)
    have hnn : (pieces s).length = (sp p).length + 1 := by rw [hlen, hsp]; simp
    have hz : s.size = p.length + 1 + r.length := by
      rw [← hl, hpr, List.length_append, List.length_cons]; omega
    have hlast : ((pieces s)[(pieces s).length - 1]'(by omega)).data.toList = r := by
      have h0 : ∀ j (hj : j < (pieces s).length), j = (sp p).length → ((pieces s)[j]).data.toList = r := by
        intro j hj e
        have h0 := hat j hj
        have h1 : (sp s.data.toList)[j]? = some r := by
          rw [hsp, e, List.getElem?_append_right (Nat.le_refl _), Nat.sub_self]; rfl
        exact (Option.some.inj (h1.symm.trans h0)).symm
      exact h0 _ (by omega) (by omega)
    have hb : (s.extract (p.length + 1) s.size).data.toList = r := by
      rw [Lib.extract_data, hpr]
      rw [show (p ++ 47 :: r).drop (p.length + 1) = r by
          rw [List.drop_append, List.drop_eq_nil_of_le (by omega), show p.length + 1 - p.length = 1 by omega]; rfl]
      exact List.take_of_length_le (by omega)
    have hd : (s.extract 0 p.length).data.toList = p := by
      rw [Lib.extract_data, hpr]; simp
    have hD : (sp s.data.toList).take ((pieces s).length - 1) = sp p := by
      rw [hsp, hnn]; simp
    refine nparts_core s (s.extract (p.length + 1) s.size) (pieces s) (fun k => str (unj ((sp s.data.toList).take k))) w hA hs (by omega) (by omega) (by rw [ByteArray.size_extract]; omega) H1 H2 (Lib.hid fun w => base_some s p.length w hs (by omega) hi) (Lib.hid fun w => ?_) (Lib.hid rfl) (Lib.hid D1) (Lib.hid D2) (Lib.hid DZ) (Lib.hid XZ) (Lib.hid fun h => beq_of ?_) (Lib.hid (.inr ⟨by omega, beq_of ?_⟩))
    · have e : s.extract 0 p.length = str (unj ((sp s.data.toList).take ((pieces s).length - 1))) := by
        apply ba_ext
        rw [hd, hD, unj_sp, str_data]
      rw [← e]
      exact dir_some s p.length w hs (by omega) hi
    · rw [hb, hlast]
    · rw [app_data, app_data, hb]
      show (unj ((sp s.data.toList).take ((pieces s).length - 1)) ++ [47]) ++ r = _
      rw [hD, unj_sp, hpr]
      simp
end Go.Proofs.YtjklhkananjijaaDoor
