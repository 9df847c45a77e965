/- The page's example (awake): a short name. -/
import Derived.Test.YtmcbgjkogggneaaDoorLiA
import Derived.StringKeys
namespace Go.Proofs.YtmcbgjkogggneaaDoor
set_option maxRecDepth 100000
set_option linter.unusedVariables false
set_option linter.unusedSimpArgs false
open Go.RowKit Go.Maps Go.WideMaps
theorem law : Keyed Tryd.prog 9 := string_keyed Tryd.underlying9
theorem zeroE (w : World) : (zeroValue 3).run Tryd.prog w = .ok (.int .i64 0) w := by kernel_rfl
/-- A map from texts to numbers. -/
def Mp (w : World) (b n : Nat) (D : DataW Unit) : Prop := w.ownsMap Tryd.prog 9 (plainElem (H := Unit) Tryd.prog 3) b n D
def keyL (s : ByteArray) : Lit := .string s.data.toList
theorem keyL_of {s : ByteArray} (h : s.size ≤ maxLen) : keyOf Tryd.prog 9 (.string s) = some (keyL s) := keyOf_string_mk Tryd.underlying9 h
set_option maxHeartbeats 1000000 in
theorem short_first (pb mb : Nat) (s : ByteArray) (w : World) (hp : w.cell? ⟨pb, 0, none⟩ = some (.map (some mb))) (hm : Mp w mb 0 (.map [])) (hs : s.size ≤ maxLen) :
    Calls Tryd.prog 37 #[.string s, .pointer (some ⟨pb, 0, none⟩)] w fun e w' => e = .returned (.string ⟨#[48]⟩) ∧ w.grownBy w' (some mb) := by
  have HM := Lib.hid hm
  have HK := Lib.hid (keyL_of hs)
  clear hm
  go_enter Tryd.func37, Tryd.ntmps37
  go_wp2_with (first
    | (at_lookup; refine wpList_lookup_own_ok_int _ rfl _ _ 67 rfl 9 3 .i64 law Tryd.underlying67 Tryd.underlying3 (zeroE _) mb 0 _ rfl HM.out _ _ rfl HK.out ?_; intro c hat hwc; rw [show Maps.has (DataW.map (H := Unit) []) (keyL s) = false from rfl])
    | (at_len; refine wpList_len_own _ rfl _ 67 rfl 9 3 Tryd.underlying67 _ mb 0 _ rfl HM.out ?_; rw [show Maps.size (DataW.map (H := Unit) []) = 0 from rfl])
    | (at_mapUpdate; refine wpList_mapUpdate_own _ rfl _ _ _ 67 rfl 9 3 law Tryd.underlying67 _ mb 0 _ rfl HM.out (by unfold maxLen; omega) _ _ _ rfl rfl HK.out _ [] (plainElem_int Tryd.underlying3 (by decide)) ?_; intro w1 hown1 hgrow1; have HG := Lib.hid hgrow1; clear hown1 hgrow1)
    | (go_at_call 38; refine (sitoa_zero _).mono ?_; rintro e w' ⟨rfl, rfl⟩))
  go_ret
  exact ⟨rfl, HG.out⟩
end Go.Proofs.YtmcbgjkogggneaaDoor
