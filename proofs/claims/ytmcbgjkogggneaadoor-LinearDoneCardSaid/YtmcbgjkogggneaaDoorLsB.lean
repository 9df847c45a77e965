/- linear.shorten. -/
import Derived.Test.YtmcbgjkogggneaaDoorLsA
namespace Go.Proofs.YtmcbgjkogggneaaDoor
set_option maxRecDepth 100000
set_option linter.unusedVariables false
set_option linter.unusedSimpArgs false
open Go.RowKit Go.Maps Go.WideMaps
theorem clone_any (na : Option Addr) (nc B : Nat) (ns : List ByteArray) (w : World) (h : Sl w B 1 (.slice na ns.length nc) ns.length (scells ns)) (hB : B ≤ w.heap.size) (hn : ns.length ≤ 20) :
    Calls Tryd.prog 39 #[.slice na ns.length nc] w fun e w' => ∃ v', e = .returned v' ∧ Row w.heap.size 9 1 w' v' ns.length (scells ns) ∧ Below w.heap.size w w' := by
  have HS := Lib.hid h
  obtain ⟨m, hm⟩ : ∃ m, ns.length = m := ⟨_, rfl⟩
  rw [hm] at HS hn ⊢
  have HM := Lib.hid hm
  clear hm h
  cases na with
  | none =>
    obtain ⟨hl, a, cap, he, hcap, hor⟩ := HS.out
    injection he with he1 he2 he3
    subst he1 he3
    rcases hor with ⟨h0, h1⟩ | ⟨b, off, hx, _⟩
    · obtain rfl := h1 rfl
      subst h0
      have : ns = [] := List.eq_nil_of_length_eq_zero HM.out
      rw [this]
      refine (clone_nil w).mono ?_
      rintro e w' ⟨rfl, rfl⟩
      exact ⟨_, rfl, Row.nil, Below.refl _ _⟩
    · cases hx
  | some p =>
    have heq := fun W => Lib.run_eql_slice_nil (P := Tryd.prog) W 30 9 (some p) m nc 0 0 rfl
    have HRE := Lib.hid (Row.empty (base := w.heap.size) (e := 9) (size := 1) w (Nat.le_refl _))
    have HB1 := Lib.hid ((Below.refl w.heap.size w).alloc (Nat.le_refl _) (.cells #[] 9))
    have HSL := Lib.hid (HS.out.below (HB1.out.mono hB))
    have HONE : Hid (∀ u ∈ scells ns, u.oneCell' = true) := Lib.hid (by intro u hu; unfold scells at hu; obtain ⟨s, _, rfl⟩ := List.mem_map.1 hu; rfl)
    clear HS
    go_enter Tryd.func39, Tryd.ntmps39
    go_wp2_with (at_builtin; refine append_row (base := w.heap.size) (size := 1) (xs := []) Tryd.underlying30 info_str rfl (by decide) rfl _ _ rfl rfl HRE.out rfl HSL.out HONE.out ?_ ?_ ?_ ?_; omega; omega; exact HB1.out.size)
    intro v5 w5 hr5 hb5
    have HR5 : Hid (Row w.heap.size 9 1 w5 v5 m (scells ns)) := Lib.hid (by simpa using hr5)
    have HB5 := Lib.hid (HB1.out.trans hb5)
    clear hr5 hb5
    go_wp2_with (fail)
    go_ret
    exact ⟨_, rfl, HR5.out, HB5.out⟩
theorem clone_len (na : Option Addr) (nc B m : Nat) (ns : List ByteArray) (w : World) (hm : ns.length = m) (h : Sl w B 1 (.slice na m nc) m (scells ns)) (hB : B ≤ w.heap.size) (hn : m ≤ 20) :
    Calls Tryd.prog 39 #[.slice na m nc] w fun e w' => ∃ v', e = .returned v' ∧ Row w.heap.size 9 1 w' v' m (scells ns) ∧ Below w.heap.size w w' := by
  subst hm
  exact clone_any na nc B ns w h hB hn
/-- What stands for a call behind shorten. -/
def ShortOf (K : List ByteArray) (c c' : CallV) (ns ns' : List ByteArray) : Prop :=
  hasL K c.name = true ∧ c'.name = dgs (ixL K c.name) ∧ c'.kind = c.kind ∧ c'.told = c.told ∧ c'.beg = c.beg ∧ c'.fin = c.fin ∧ c'.nn = c.nn ∧
    ((ns.length ≤ 8 ∧ (∀ s ∈ ns, hasL K s = true) ∧ ns' = ns.map fun s => dgs (ixL K s)) ∨ (8 < ns.length ∧ ns' = ns))
theorem ShortOf.ext {K : List ByteArray} {c c' : CallV} {ns ns' : List ByteArray} (h : ShortOf K c c' ns ns') (T : List ByteArray) : ShortOf (K ++ T) c c' ns ns' := by
  obtain ⟨h1, h2, h3, h4, h5, h6, h7, h8⟩ := h
  refine ⟨hasL_app T h1, by rw [ixL_app T h1]; exact h2, h3, h4, h5, h6, h7, ?_⟩
  rcases h8 with ⟨a1, a2, a3⟩ | h8
  · refine .inl ⟨a1, fun s hs => hasL_app T (a2 s hs), ?_⟩
    rw [a3]
    exact List.map_congr_left fun s hs => by rw [ixL_app T (a2 s hs)]
  · exact .inr h8
def NmAt (mb base : Nat) (w : World) (c : CallV) (ns : List ByteArray) : Prop :=
  ns.length = c.nn ∧ (Sl w mb 1 (.slice c.na c.nn c.nc) c.nn (scells ns) ∨ Row base 9 1 w (.slice c.na c.nn c.nc) c.nn (scells ns))
structure ShI (mb base n : Nat) (cv : Nat → CallV) (nm : Nat → List ByteArray) (w : World) (j : Nat) (v : Value) (K : List ByteArray) (cv' : Nat → CallV) (nm' : Nat → List ByteArray) : Prop where
  row : Row base 32 6 w v j (ccells j cv')
  map : MapK w mb K
  pb : w.cell? ⟨mb + 1, 0, none⟩ = some (.map (some mb))
  len : K.length ≤ 9 * j
  sh : ∀ k, k < j → ShortOf K (cv k) (cv' k) (nm k) (nm' k)
  nms : ∀ k, k < j → NmAt mb base w (cv' k) (nm' k)
theorem NmAt.gr {mb base : Nat} {w w' : World} {c : CallV} {ns : List ByteArray} (h : NmAt mb base w c ns) (hb : mb < base) (hg : w.grownBy w' (some mb)) (hm : mb ≤ w.heap.size) : NmAt mb base w' c ns := by
  refine ⟨h.1, ?_⟩
  rcases h.2 with h | h
  · exact .inl (h.below ((Below.refl mb w).grown hg hm (fun k hk => by cases hk; exact Nat.le_refl _)))
  · exact .inr (h.kept_lt hg hb)
theorem NmAt.ne {mb base base2 size2 m : Nat} {w w' : World} {c : CallV} {ns : List ByteArray} {u : Value} {ys : List Value} (h : NmAt mb base w c ns) (h2 : Row base2 32 size2 w u m ys) (hg : w.grownBy w' u.ownBlock) (hb : Below mb w w') : NmAt mb base w' c ns := by
  refine ⟨h.1, ?_⟩
  rcases h.2 with h | h
  · exact .inl (h.below hb)
  · exact .inr (h.kept_ne h2 hg (by decide))
theorem ccells_congr {n : Nat} {cv cv' : Nat → CallV} (h : ∀ k, k < n → cv k = cv' k) : ccells n cv = ccells n cv' := by
  unfold ccells
  rw [List.flatMap_def, List.flatMap_def, List.map_congr_left fun k hk => by rw [h k (List.mem_range.1 hk)]]
theorem ShI.step {mb base n j : Nat} {cv cv' : Nat → CallV} {nm nm' : Nat → List ByteArray} {w w6 w7 : World} {v v7 : Value} {K K' : List ByteArray} {c' : CallV} {ns' : List ByteArray} (h : ShI mb base n cv nm w j v K cv' nm') (hb : mb + 1 < base) (hbs : base ≤ w.heap.size) (hg : w.grownBy w6 (some mb)) (hm : MapK w6 mb K') (hT : ∃ T, K' = K ++ T) (hl : K'.length ≤ 9 * (j + 1))
    (hs : ShortOf K' (cv j) c' (nm j) ns') (hn : NmAt mb base w6 c' ns') (hr : Row base 32 6 w6 v j (ccells j cv')) (hr7 : Row base 32 6 w7 v7 (j + 1) (ccells j cv' ++ c'.cells)) (hg7 : w6.grownBy w7 v.ownBlock) (hb7 : Below base w6 w7) :
    ShI mb base n cv nm w7 (j + 1) v7 K' (fun k => if k = j then c' else cv' k) (fun k => if k = j then ns' else nm' k) := by
  obtain ⟨T, rfl⟩ := hT
  have e1 : ccells j (fun k => if k = j then c' else cv' k) = ccells j cv' := ccells_congr fun k hk => if_neg (by omega)
  have hmb : ∀ k, v.ownBlock = some k → base ≤ k := fun k hk => (World.ownsRow.lt hr k hk).1
  refine ⟨?_, hm.kept hg7 (fun e => by have := hmb mb e.symm; omega), ?_, hl, fun k hk => ?_, fun k hk => ?_⟩
  · rw [ccells_succ, e1]
    simp only [if_true]
    exact hr7
  · rw [hb7.cell (p := ⟨mb + 1, 0, none⟩) (by show mb + 1 < base; omega)]
    rw [World.cell?_of_block (w := w) (a := ⟨mb + 1, 0, none⟩) (hg.block (mb + 1) (by omega) (by simp))]
    exact h.pb
  · by_cases e : k = j
    · subst e; simp only [if_true]; exact hs
    · simp only [e, if_false]; exact (h.sh k (by omega)).ext T
  · by_cases e : k = j
    · subst e; simp only [if_true]; exact hn.ne hr hg7 (hb7.mono (by omega))
    · simp only [e, if_false]; exact ((h.nms k (by omega)).gr (by omega) hg (by omega)).ne hr hg7 (hb7.mono (by omega))
end Go.Proofs.YtmcbgjkogggneaaDoor
