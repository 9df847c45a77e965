/- Regions that draw their order, whose operations only make memory (or stay within a relation of worlds that keeps what was told): one obligation an operation, whatever the order. -/
import Derived.Orders
import Derived.Tactics
import Derived.KernelRfl
import Derived.Below
namespace Go.Proofs.YtcpojpgdjjmfbaaDoor.Mono
set_option linter.unusedVariables false
set_option linter.unusedSimpArgs false
open Go Go.RowKit
section
variable (P : Program) (ops : Array Oper) (a0 : Act) (w : World) (R : World → World → Prop) (Q : Exit → Act → World → Prop)
/-- Does operation i wait for operation k? -/
def waits (i k : Nat) : Bool := match ops[i]? with
  | some o => o.after.any fun e => Region.binds .any e && e.on == k
  | none => false
def dstOf (k : Nat) : Option Tmp := (ops[k]?).bind (·.dst)
/-- No operation ahead of which i comes writes slot t: i finds there what was there. -/
def freshB (i t : Nat) : Bool := (List.range ops.size).all fun k => !(dstOf ops k == some t) || !waits ops i k
def readsOf (o : Oper) : List Tmp := o.op.operands.toList.filterMap fun | .tmp t => some t | _ => none
/-- The look at the region's text. -/
def soloB : Bool :=
  (List.range ops.size).all fun i =>
    match ops[i]? with
    | none => true
    | some o =>
      (match o.op with | .select .. => false | _ => true) &&
      (o.after.all fun e => !Region.binds .any e || decide (e.on < i)) &&
      ((List.range ops.size).all fun k => k == i || dstOf ops k == none || !(dstOf ops k == dstOf ops i)) &&
      ((readsOf o).all fun t => (List.range ops.size).all fun k => k == i || !(dstOf ops k == some t) || waits ops i k || waits ops k i) &&
      (match o.guard with | none => true | some (j, _) => waits ops i j && (dstOf ops j).isSome)
/-- What a run of one operation must come to. -/
def YieldM (W : World) (φ : Value → World → Prop) : Result Next → Prop
  | .ok (.value v) W' => R W W' ∧ φ v W'
  | .ok .skip W' => R W W' ∧ φ undef W'
  | .ok (.enter f args) W' => R W W' ∧ Calls P f args W' fun e W'' => ∃ v, e = .returned v ∧ R W' W'' ∧ φ v W''
  | _ => False
def Deps (Φ : Nat → Value → World → Prop) (i : Nat) (ρ : Nat → Value) (W : World) : Prop := ∀ k, k < i → waits ops i k = true → Φ k (ρ k) W
def Finds (i : Nat) (ρ : Nat → Value) (a : Act) : Prop :=
  (∀ t k, waits ops i k = true → dstOf ops k = some t → a.tmps[t]? = some (ρ k)) ∧ (∀ t, freshB ops i t = true → t ∈ ((ops[i]?).map readsOf).getD [] → a.tmps[t]? = a0.tmps[t]?)
/-- The obligation of operation i. -/
def Ob (Φ : Nat → Value → World → Prop) (i : Nat) (φ : Value → World → Prop) : Prop :=
  ∀ o, ops[i]? = some o → ∀ (ρ : Nat → Value) (a : Act) (W : World), R w W → Deps ops Φ i ρ W → Finds ops a0 i ρ a →
    match o.guard with
    | none => YieldM P R W φ ((execOp a.eval o).run P W)
    | some (j, b) => (ρ j = .bool b → YieldM P R W φ ((execOp a.eval o).run P W)) ∧ (ρ j ≠ .bool b → φ undef W)
def boundB (n : Nat) : Bool := (List.range ops.size).all fun k => match dstOf ops k with | none => true | some t => decide (t < n)
def putAll : List Oper → Nat → (Nat → Value) → Act → Act
  | [], _, _, a => a
  | o :: l, i, ρ, a => putAll l (i + 1) ρ (a.put o.dst (ρ i))
def nth (Φs : List (Value → World → Prop)) (i : Nat) : Value → World → Prop := Φs.getD i (fun _ _ => True)
/-- The operations behind the first ones, of which Φs tells, can be told of; and all told gives what is wanted. -/
def RG (Φs : List (Value → World → Prop)) : Prop :=
  ∃ Φ : Nat → Value → World → Prop, (∀ i, i < Φs.length → Φ i = nth Φs i) ∧
    (∀ i, Φs.length ≤ i → i < ops.size → Ob P ops a0 w R Φ i (Φ i) ∧ ∀ v W W', Φ i v W → R W W' → Φ i v W') ∧
    (∀ ρ W, R w W → (∀ i, i < ops.size → Φ i (ρ i) W) → Q .normal (putAll ops.toList 0 ρ a0) W)
end
section
variable {P : Program} {ops : Array Oper} {a0 : Act} {w : World} {R : World → World → Prop} {Q : Exit → Act → World → Prop}
theorem put_get_ne (a : Act) (dst : Option Tmp) (v : Value) (t : Nat) (h : dst ≠ some t) : (a.put dst v).tmps[t]? = a.tmps[t]? := by
  cases dst with
  | none => rfl
  | some d => simp [Act.put, Array.getElem?_setIfInBounds_ne (show d ≠ t from fun e => h (by rw [e]))]
theorem put_get_eq (a : Act) (v : Value) (t : Nat) (h : t < a.tmps.size) : (a.put (some t) v).tmps[t]? = some v := by
  simp [Act.put, h]
theorem put_size (a : Act) (dst : Option Tmp) (v : Value) : (a.put dst v).tmps.size = a.tmps.size := by
  cases dst <;> simp [Act.put]
theorem put_defers (a : Act) (dst : Option Tmp) (v : Value) : (a.put dst v).defers = a.defers := by
  cases dst <;> simp [Act.put]
theorem putAll_size (ρ : Nat → Value) : ∀ (l : List Oper) (i : Nat) (a : Act), (putAll l i ρ a).tmps.size = a.tmps.size ∧ (putAll l i ρ a).defers = a.defers
  | [], _, _ => ⟨rfl, rfl⟩
  | o :: l, i, a => by
    have := putAll_size ρ l (i + 1) (a.put o.dst (ρ i))
    rw [put_size, put_defers] at this
    exact this
theorem putAll_ne (ρ : Nat → Value) (t : Nat) : ∀ (l : List Oper) (i : Nat) (a : Act), (∀ (m : Nat) (o : Oper), l[m]? = some o → o.dst ≠ some t) → (putAll l i ρ a).tmps[t]? = a.tmps[t]?
  | [], _, _, _ => rfl
  | o :: l, i, a, h => by
    show (putAll l (i + 1) ρ (a.put o.dst (ρ i))).tmps[t]? = _
    rw [putAll_ne ρ t l (i + 1) _ (fun m o' hm => h (m + 1) o' hm), put_get_ne _ _ _ _ (h 0 o rfl)]
theorem putAll_eq (ρ : Nat → Value) (t : Nat) : ∀ (l : List Oper) (i : Nat) (a : Act) (m : Nat) (o : Oper), l[m]? = some o → o.dst = some t → t < a.tmps.size → (∀ (m' : Nat) (o' : Oper), l[m']? = some o' → m' ≠ m → o'.dst ≠ some t) → (putAll l i ρ a).tmps[t]? = some (ρ (i + m))
  | [], _, _, m, o, h, _, _, _ => by simp at h
  | o' :: l, i, a, 0, o, h, hd, hlt, hu => by
    have e : o' = o := by simpa using h
    subst e
    show (putAll l (i + 1) ρ (a.put o'.dst (ρ i))).tmps[t]? = _
    rw [putAll_ne ρ t l (i + 1) _ (fun m o'' hm => hu (m + 1) o'' hm (by omega)), hd, put_get_eq _ _ _ hlt]
    rfl
  | o' :: l, i, a, m + 1, o, h, hd, hlt, hu => by
    show (putAll l (i + 1) ρ (a.put o'.dst (ρ i))).tmps[t]? = _
    rw [putAll_eq ρ t l (i + 1) _ m o h hd (by rw [put_size]; exact hlt) (fun m' o'' hm hne => hu (m' + 1) o'' hm (by omega))]
    congr 2
    omega
structure Inv (P : Program) (ops : Array Oper) (a0 : Act) (w : World) (R : World → World → Prop) (Φ : Nat → Value → World → Prop) (listed : Array Bool) (a : Act) (W : World) (ρ : Nat → Value) : Prop where
  size : listed.size = ops.size
  closed : ∀ j, listed.getD j false = true → ∀ k, waits ops j k = true → listed.getD k false = true
  rel : R w W
  new : ∀ k t, listed.getD k false = true → dstOf ops k = some t → a.tmps[t]? = some (ρ k)
  old : ∀ t, (∀ k, listed.getD k false = true → dstOf ops k ≠ some t) → a.tmps[t]? = a0.tmps[t]?
  sz : a.tmps.size = a0.tmps.size
  df : a.defers = a0.defers
  told : ∀ k, k < ops.size → listed.getD k false = true → Φ k (ρ k) W
theorem mem_ready' {listed : Array Bool} {i : Nat} (h : i ∈ Region.ready .any ops listed) : i < ops.size ∧ listed.getD i true = false ∧ ∃ o, ops[i]? = some o ∧ ∀ k, waits ops i k = true → listed.getD k false = true := by
  unfold Region.ready at h
  rw [List.mem_filter, List.mem_range] at h
  obtain ⟨h1, h2⟩ := h
  simp only [Bool.and_eq_true, Bool.not_eq_true'] at h2
  refine ⟨h1, h2.1, ops[i], Array.getElem?_eq_getElem h1, fun k hk => ?_⟩
  have h3 := h2.2
  rw [Array.getElem?_eq_getElem h1] at h3
  simp only [Option.map_some, Option.getD_some] at h3
  unfold waits at hk
  rw [Array.getElem?_eq_getElem h1] at hk
  obtain ⟨e, he, hb⟩ := Array.any_eq_true'.1 hk
  simp only [Bool.and_eq_true, beq_iff_eq] at hb
  have h4 := Array.all_eq_true'.1 h3 e he
  simp only [hb.1, Bool.not_true, Bool.false_or, hb.2] at h4
  exact h4
theorem solo_spec (hB : soloB ops = true) (i : Nat) (o : Oper) (hi : ops[i]? = some o) :
    (∀ cs b, o.op ≠ .select cs b) ∧ (∀ k, waits ops i k = true → k < i) ∧ (∀ k t, k ≠ i → dstOf ops k = some t → dstOf ops i ≠ some t) ∧
    (∀ t k, t ∈ readsOf o → k ≠ i → dstOf ops k = some t → waits ops i k = true ∨ waits ops k i = true) ∧ (∀ j b, o.guard = some (j, b) → waits ops i j = true ∧ ∃ t, dstOf ops j = some t) := by
  have hlt : i < ops.size := (Array.getElem?_eq_some_iff.1 hi).1
  have h := List.all_eq_true.1 hB i (List.mem_range.2 hlt)
  simp only [hi, Bool.and_eq_true] at h
  obtain ⟨⟨⟨⟨h1, h2⟩, h3⟩, h4⟩, h5⟩ := h
  refine ⟨(fun cs b e => by rw [e] at h1; cases h1), fun k hk => ?_, fun k t hk hd e => ?_, fun t k ht hk hd => ?_, fun j b hg => ?_⟩
  · unfold waits at hk
    rw [hi] at hk
    obtain ⟨e, he, hb⟩ := Array.any_eq_true'.1 hk
    simp only [Bool.and_eq_true, beq_iff_eq] at hb
    have h6 := Array.all_eq_true'.1 h2 e he
    simp only [hb.1, Bool.not_true, Bool.false_or, hb.2, decide_eq_true_eq] at h6
    exact h6
  · have hkl : k < ops.size := by
      unfold dstOf at hd
      cases hk' : ops[k]? with
      | none => rw [hk'] at hd; cases hd
      | some x => exact (Array.getElem?_eq_some_iff.1 hk').1
    have h6 := List.all_eq_true.1 h3 k (List.mem_range.2 hkl)
    rw [hd, e] at h6
    simp [hk] at h6
  · have hkl : k < ops.size := by
      unfold dstOf at hd
      cases hk' : ops[k]? with
      | none => rw [hk'] at hd; cases hd
      | some x => exact (Array.getElem?_eq_some_iff.1 hk').1
    have h6 := List.all_eq_true.1 (List.all_eq_true.1 h4 t ht) k (List.mem_range.2 hkl)
    rw [hd] at h6
    simpa [hk] using h6
  · rw [hg] at h5
    simp only [Bool.and_eq_true] at h5
    exact ⟨h5.1, Option.isSome_iff_exists.1 h5.2⟩
theorem dst_lt {n : Nat} (hn : boundB ops n = true) {k t : Nat} (hd : dstOf ops k = some t) : t < n := by
  have hkl : k < ops.size := by
    unfold dstOf at hd
    cases hk' : ops[k]? with
    | none => rw [hk'] at hd; cases hd
    | some x => exact (Array.getElem?_eq_some_iff.1 hk').1
  have h6 := List.all_eq_true.1 hn k (List.mem_range.2 hkl)
  rw [hd] at h6
  simpa using h6
theorem getD_ft {listed : Array Bool} {i : Nat} (h : listed.getD i true = false) : listed.getD i false = false ∧ i < listed.size := by
  rcases Nat.lt_or_ge i listed.size with h' | h'
  · simp [h'] at h ⊢; exact h
  · simp [Array.getElem?_eq_none h'] at h
theorem getD_set_self {listed : Array Bool} {i : Nat} (h : i < listed.size) : (listed.setIfInBounds i true).getD i false = true := by simp [h]
theorem getD_set_other {listed : Array Bool} {i j : Nat} (h : i ≠ j) (d : Bool) : (listed.setIfInBounds i true).getD j d = listed.getD j d := by
  simp [Array.getElem?_setIfInBounds_ne h]
theorem getD_set_cases {listed : Array Bool} {i j : Nat} (h : (listed.setIfInBounds i true).getD j false = true) : j = i ∨ listed.getD j false = true := by
  by_cases e : i = j
  · exact .inl e.symm
  · rw [getD_set_other e] at h; exact .inr h
/-- The step of the invariant. -/
theorem Inv.step {Φ : Nat → Value → World → Prop} {listed : Array Bool} {a : Act} {W W' : World} {ρ : Nat → Value} {i : Nat} {o : Oper} {v : Value} (hB : soloB ops = true) (hn : boundB ops a0.tmps.size = true) (Rtrans : ∀ a b c, R a b → R b c → R a c)
    (hst : ∀ k, k < ops.size → ∀ v W W', Φ k v W → R W W' → Φ k v W') (inv : Inv P ops a0 w R Φ listed a W ρ) (hi : ops[i]? = some o) (hun : listed.getD i true = false) (hall : ∀ k, waits ops i k = true → listed.getD k false = true) (hR : R W W') (hφ : Φ i v W') :
    Inv P ops a0 w R Φ (listed.setIfInBounds i true) (a.put o.dst v) W' (fun k => if k = i then v else ρ k) := by
  obtain ⟨hun', hil⟩ := getD_ft hun
  obtain ⟨_, _, hdis, _, _⟩ := solo_spec hB i o hi
  have hdi : dstOf ops i = o.dst := by unfold dstOf; rw [hi]; rfl
  refine ⟨by simp [inv.size], ?_, Rtrans _ _ _ inv.rel hR, ?_, ?_, by rw [put_size]; exact inv.sz, by rw [put_defers]; exact inv.df, ?_⟩
  · intro j hj k hk
    have hk' : listed.getD k false = true := by
      rcases getD_set_cases hj with rfl | hj'
      · exact hall k hk
      · exact inv.closed j hj' k hk
    by_cases e : i = k
    · subst e; exact getD_set_self hil
    · rw [getD_set_other e]; exact hk'
  · intro k t hk hd
    by_cases e : k = i
    · subst e
      rw [hdi] at hd
      rw [hd, put_get_eq _ _ _ (by rw [inv.sz]; exact dst_lt hn (by rw [hdi]; exact hd))]
      simp
    · rcases getD_set_cases hk with h | h
      · exact absurd h e
      · rw [put_get_ne _ _ _ _ (by rw [← hdi]; exact hdis k t e hd), inv.new k t h hd]
        simp [e]
  · intro t ht
    have h1 : o.dst ≠ some t := by rw [← hdi]; exact ht i (getD_set_self hil)
    rw [put_get_ne _ _ _ _ h1]
    refine inv.old t fun k hk => ht k ?_
    by_cases e : i = k
    · subst e; exact getD_set_self hil
    · rw [getD_set_other e]; exact hk
  · intro k hk hl
    by_cases e : k = i
    · subst e; simpa using hφ
    · rcases getD_set_cases hl with h | h
      · exact absurd h e
      · simp only [e, if_false]
        exact hst k hk _ _ _ (inv.told k hk h) hR
theorem unlisted_step {listed : Array Bool} {i n : Nat} (hs : listed.size = n) (hi : listed.getD i true = false) :
    ((List.range n).filter fun j => !listed.getD j true).length = ((List.range n).filter fun j => !(listed.setIfInBounds i true).getD j true).length + 1 := by
  obtain ⟨_, hil⟩ := getD_ft hi
  have hnd : ((List.range n).filter fun j => !listed.getD j true).Nodup := List.Nodup.sublist List.filter_sublist List.nodup_range
  have hmem : i ∈ (List.range n).filter fun j => !listed.getD j true := by
    rw [List.mem_filter, List.mem_range]; exact ⟨by omega, by rw [hi]; rfl⟩
  have he : ((List.range n).filter fun j => !(listed.setIfInBounds i true).getD j true) = ((List.range n).filter fun j => !listed.getD j true).erase i := by
    rw [List.Nodup.erase_eq_filter hnd, List.filter_filter]
    refine List.filter_congr fun j _ => ?_
    by_cases e : i = j
    · subst e; simp [hil]
    · rw [getD_set_other e]; simp [Ne.symm e]
  rw [he, List.length_erase_of_mem hmem]
  have := List.length_pos_of_mem hmem
  omega
theorem mono_any {Φ : Nat → Value → World → Prop} (hrefl : ∀ W, R W W) (hB : soloB ops = true) (hn : boundB ops a0.tmps.size = true) (Rtrans : ∀ a b c, R a b → R b c → R a c)
    (hst : ∀ k, k < ops.size → ∀ v W W', Φ k v W → R W W' → Φ k v W') (hob : ∀ i, i < ops.size → Ob P ops a0 w R Φ i (Φ i))
    (hQ : ∀ ρ W, R w W → (∀ i, i < ops.size → Φ i (ρ i) W) → Q .normal (putAll ops.toList 0 ρ a0) W) :
    ∀ (fuel : Nat) (listed : Array Bool) (a : Act) (W : World) (ρ : Nat → Value), Inv P ops a0 w R Φ listed a W ρ → ((List.range ops.size).filter fun j => !listed.getD j true).length = fuel → wpAny P .any ops Q fuel listed a W := by
  have fin : ∀ (listed : Array Bool) (a : Act) (W : World) (ρ : Nat → Value), Inv P ops a0 w R Φ listed a W ρ → (∀ i, i < ops.size → listed.getD i false = true) → Q .normal a W := by
    intro listed a W ρ inv hall
    have e : a = putAll ops.toList 0 ρ a0 := by
      have hsz := putAll_size ρ ops.toList 0 a0
      have ht : a.tmps = (putAll ops.toList 0 ρ a0).tmps := by
        refine Array.ext_getElem? fun t => ?_
        by_cases hex : ∃ k, dstOf ops k = some t
        · obtain ⟨k, hk⟩ := hex
          have hkl : k < ops.size := by
            unfold dstOf at hk
            cases hk' : ops[k]? with
            | none => rw [hk'] at hk; cases hk
            | some x => exact (Array.getElem?_eq_some_iff.1 hk').1
          have ho : ops[k]? = some ops[k] := Array.getElem?_eq_getElem hkl
          have hod : (ops[k]).dst = some t := by unfold dstOf at hk; rw [ho] at hk; exact hk
          rw [inv.new k t (hall k hkl) hk, putAll_eq ρ t ops.toList 0 a0 k ops[k] (by simp) hod (dst_lt hn hk) (fun m' o' hm hne hd => ?_)]
          · simp
          · have hm' : ops[m']? = some o' := by simpa using hm
            have hdm : dstOf ops m' = some t := by unfold dstOf; rw [hm']; exact hd
            exact (solo_spec hB k ops[k] ho).2.2.1 m' t hne hdm hk
        · rw [inv.old t (fun k _ hk => hex ⟨k, hk⟩), putAll_ne ρ t ops.toList 0 a0 (fun m o hm hd => hex ⟨m, ?_⟩)]
          have hm' : ops[m]? = some o := by simpa using hm
          unfold dstOf; rw [hm']; exact hd
      have hdf : a.defers = (putAll ops.toList 0 ρ a0).defers := by rw [hsz.2]; exact inv.df
      calc a = ⟨a.tmps, a.defers⟩ := rfl
        _ = putAll ops.toList 0 ρ a0 := by rw [ht, hdf]
    rw [e]
    exact hQ ρ W inv.rel fun i hi => inv.told i hi (hall i hi)
  intro fuel
  induction fuel with
  | zero =>
    intro listed a W ρ inv hf
    have hnil := List.length_eq_zero_iff.1 hf
    have hall : ∀ i, i < ops.size → listed.getD i false = true := by
      intro i hi
      have h1 : ¬ (i ∈ (List.range ops.size).filter fun j => !listed.getD j true) := by rw [hnil]; simp
      rw [List.mem_filter, List.mem_range] at h1
      have h2 : listed.getD i true = true := by
        cases h : listed.getD i true with
        | true => rfl
        | false => exact absurd ⟨hi, by rw [h]; rfl⟩ h1
      rw [← inv.size] at hi
      simpa [hi] using h2
    refine ⟨?_, fin listed a W ρ inv hall⟩
    cases hr : Region.ready .any ops listed with
    | nil => rfl
    | cons x xs =>
      obtain ⟨h1, h2, _⟩ := mem_ready' (ops := ops) (listed := listed) (i := x) (by rw [hr]; simp)
      have := hall x h1
      rw [(getD_ft h2).1] at this
      cases this
  | succ fuel ih =>
    intro listed a W ρ inv hf
    refine ⟨fun hnil => ?_, fun i hi => ?_⟩
    · refine fin listed a W ρ inv ?_
      intro i
      induction i using Nat.strongRecOn with
      | _ i ihi =>
        intro hi
        cases hl : listed.getD i false with
        | true => rfl
        | false =>
          exfalso
          have hio : ops[i]? = some ops[i] := Array.getElem?_eq_getElem hi
          have hmem : i ∈ Region.ready .any ops listed := by
            unfold Region.ready
            rw [List.mem_filter, List.mem_range]
            refine ⟨hi, ?_⟩
            have hl2 : listed.getD i true = false := by
              have : i < listed.size := by rw [inv.size]; exact hi
              simpa [this] using hl
            rw [hl2, hio]
            simp only [Bool.not_false, Bool.true_and, Option.map_some, Option.getD_some]
            refine Array.all_eq_true'.2 fun e he => ?_
            cases hb : Region.binds .any e with
            | false => rfl
            | true =>
              have hw : waits ops i e.on = true := by
                unfold waits; rw [hio]
                exact Array.any_eq_true'.2 ⟨e, he, by simp [hb]⟩
              have hlt := (solo_spec hB i _ hio).2.1 _ hw
              simp only [Bool.not_true, Bool.false_or]
              exact ihi e.on hlt (by omega)
          rw [hnil] at hmem
          cases hmem
    · obtain ⟨hil, hun, o, ho, hall⟩ := mem_ready' hi
      obtain ⟨hsel, hlex, hdis, hrd, hgd⟩ := solo_spec hB i o ho
      have hnext : ∀ v W', R W W' → Φ i v W' → wpAny P .any ops Q fuel (listed.setIfInBounds i true) (a.put o.dst v) W' := by
        intro v W' hR hφ
        refine ih _ _ _ _ (Inv.step hB hn Rtrans hst inv ho hun hall hR hφ) ?_
        have := unlisted_step inv.size hun
        omega
      have hdeps : Deps ops Φ i ρ W := fun k hk hw => inv.told k (by omega) (hall k hw)
      have hfinds : Finds ops a0 i ρ a := by
        refine ⟨fun t k hw hd => inv.new k t (hall k hw) hd, fun t hf ht => ?_⟩
        rw [ho] at ht
        simp only [Option.map_some, Option.getD_some] at ht
        refine inv.old t fun k hk hd => ?_
        have hkl : k < ops.size := by
          unfold dstOf at hd
          cases hk' : ops[k]? with
          | none => rw [hk'] at hd; cases hd
          | some x => exact (Array.getElem?_eq_some_iff.1 hk').1
        by_cases e : k = i
        · subst e; rw [(getD_ft hun).1] at hk; cases hk
        · rcases hrd t k ht e hd with h | h
          · have h6 := List.all_eq_true.1 hf k (List.mem_range.2 hkl)
            rw [hd, h] at h6
            simp at h6
          · have := inv.closed k hk i h
            rw [(getD_ft hun).1] at this
            cases this
      have hO := hob i hil o ho ρ a W inv.rel hdeps hfinds
      have hrun : YieldM P R W (Φ i) ((execOp a.eval o).run P W) → o.wp P a W (wpAny P .any ops Q fuel (listed.setIfInBounds i true)) Q := by
        intro hy
        unfold Oper.wp
        generalize (execOp a.eval o).run P W = r at hy
        cases r with
        | ok n W' =>
          cases n <;> simp only [YieldM] at hy <;> simp only [Oper.upon]
          case value v => exact hnext v W' hy.1 hy.2
          case skip => exact hnext undef W' hy.1 hy.2
          case enter f args =>
            refine hy.2.mono ?_
            rintro e W'' ⟨v, rfl, hR, hφ⟩
            exact hnext v W'' (Rtrans _ _ _ hy.1 hR) hφ
        | halt x W' => simp only [YieldM] at hy
      unfold wpOp
      simp only [ho]
      cases hg : o.guard with
      | none =>
        rw [hg] at hO
        simp only [Region.wanted, hg, if_true]
        exact .inl (hrun hO)
      | some gw =>
        obtain ⟨j, b⟩ := gw
        rw [hg] at hO
        obtain ⟨hwj, t, hdj⟩ := hgd j b hg
        have hy : yielded ops a.tmps j = (match ρ j with | .bool x => some x | _ => none) := by
          unfold yielded
          have : ((ops[j]?).bind (·.dst)).bind (a.tmps[·]?) = some (ρ j) := by
            show (dstOf ops j).bind _ = _
            rw [hdj]
            exact inv.new j t (hall j hwj) hdj
          rw [this]
          cases ρ j <;> rfl
        by_cases he : ρ j = .bool b
        · have hwt : Region.wanted o (yielded ops a.tmps) = true := by simp [Region.wanted, hg, hy, he]
          simp only [hwt, if_true]
          exact .inl (hrun (hO.1 he))
        · have hwt : Region.wanted o (yielded ops a.tmps) = false := by
            simp only [Region.wanted, hg, hy]
            cases hr : ρ j <;> simp
            rename_i x
            rintro rfl
            exact he hr
          simp only [hwt, Bool.false_eq_true, if_false]
          exact hnext undef W (hrefl W) (hO.2 he)
theorem region_mono {id : Nat} {l : List Oper} {a : Act} {w : World} (R : World → World → Prop) (hm : P.follows .mixedOrders = true) (hB : soloB l.toArray = true) (hn : boundB l.toArray a.tmps.size = true) (Rrefl : ∀ W, R W W) (Rtrans : ∀ a b c, R a b → R b c → R a c)
    (h : RG P l.toArray a { w with drawn := w.drawn + 1 } R Q []) : (Code.region id l.toArray true).wp P Q a w := by
  obtain ⟨Φ, _, h2, h3⟩ := h
  refine wp_region_any hm ?_
  refine mono_any (Φ := Φ) Rrefl hB hn Rtrans (fun k hk => (h2 k (Nat.zero_le _) hk).2) (fun i hi => (h2 i (Nat.zero_le _) hi).1) h3 _ _ _ _ (fun _ => undef) ?_ ?_
  · have hf : ∀ k, (Array.replicate l.toArray.size false).getD k false = false := by
      intro k
      rcases Nat.lt_or_ge k l.toArray.size with h | h
      · simp at h; simp [h]
      · simp at h; simp [h]
    refine ⟨by simp, fun j hj => ?_, Rrefl _, fun k t hk => ?_, fun t _ => rfl, rfl, rfl, fun k _ hk => ?_⟩
    · rw [hf] at hj; cases hj
    · rw [hf] at hk; cases hk
    · rw [hf] at hk; cases hk
  · rw [List.filter_eq_self.2 (fun j hj => ?_), List.length_range]
    have : j < l.length := by simpa using hj
    simp [this]
/-- One operation more is told of. -/
theorem rg_step {Φs : List (Value → World → Prop)} (φ : Value → World → Prop) (hob : Ob P ops a0 w R (nth Φs) Φs.length φ) (hst : ∀ v W W', φ v W → R W W' → φ v W') (h : RG P ops a0 w R Q (Φs ++ [φ])) : RG P ops a0 w R Q Φs := by
  obtain ⟨Φ, h1, h2, h3⟩ := h
  have hφ : Φ Φs.length = φ := by
    rw [h1 Φs.length (by simp)]; simp [nth]
  have hpre : ∀ i, i < Φs.length → Φ i = nth Φs i := by
    intro i hi
    rw [h1 i (by simp; omega)]
    simp [nth, List.getElem?_append, hi]
  refine ⟨Φ, hpre, fun i hi hl => ?_, h3⟩
  by_cases e : i = Φs.length
  · subst e
    rw [hφ]
    refine ⟨?_, hst⟩
    intro o ho ρ a W hR hd hf
    refine hob o ho ρ a W hR (fun k hk hw => ?_) hf
    have := hd k hk hw
    rw [hpre k hk] at this
    exact this
  · exact h2 i (by simp; omega) hl
/-- All are told of. -/
theorem rg_done {Φs : List (Value → World → Prop)} (hl : Φs.length = ops.size) (h : ∀ ρ W, R w W → (∀ i, i < ops.size → nth Φs i (ρ i) W) → Q .normal (putAll ops.toList 0 ρ a0) W) : RG P ops a0 w R Q Φs :=
  ⟨nth Φs, fun _ _ => rfl, fun i h1 h2 => by omega, h⟩
end
section
variable (P : Program) (l : List Oper) (a0 : Act) (w : World) (R : World → World → Prop) (Q : Exit → Act → World → Prop)
/-- What is told of operation k, where the last told stands first. -/
def nthR (Φr : List (Value → World → Prop)) (k : Nat) : Value → World → Prop := Φr.getD (Φr.length - 1 - k) (fun _ _ => True)
def DepsR (Φr : List (Value → World → Prop)) (ρ : Nat → Value) (W : World) : Prop := ∀ k, k < Φr.length → waits l.toArray Φr.length k = true → nthR Φr k (ρ k) W
def FindsR (Φr : List (Value → World → Prop)) (ρ : Nat → Value) (a : Act) : Prop := Finds l.toArray a0 Φr.length ρ a
def RGL (Φr : List (Value → World → Prop)) (todo : List Oper) : Prop := l.drop Φr.length = todo → RG P l.toArray a0 w R Q Φr.reverse
def depB (i t k : Nat) : Bool := decide (k < i) && waits l.toArray i k && (dstOf l.toArray k == some t)
def initB (i t : Nat) : Bool := freshB l.toArray i t && (((l.toArray[i]?).map readsOf).getD []).contains t
def Tells : List (Value → World → Prop) → (Nat → Value) → World → Prop
  | [], _, _ => True
  | φ :: r, ρ, W => φ (ρ r.length) W ∧ Tells r ρ W
end
section
variable {P : Program} {l : List Oper} {a0 : Act} {w : World} {R : World → World → Prop} {Q : Exit → Act → World → Prop} {Φr : List (Value → World → Prop)}
theorem nth_reverse {k : Nat} (h : k < Φr.length) : nth Φr.reverse k = nthR Φr k := by
  unfold nth nthR
  rw [List.getD_eq_getElem?_getD, List.getD_eq_getElem?_getD, List.getElem?_reverse h]
theorem dep_get {ρ : Nat → Value} {a : Act} {W : World} {t k : Nat} (hd : DepsR l Φr ρ W) (hf : FindsR l a0 Φr ρ a) (h : depB l Φr.length t k = true) : a.tmps[t]? = some (ρ k) ∧ nthR Φr k (ρ k) W := by
  simp only [depB, Bool.and_eq_true, decide_eq_true_eq, beq_iff_eq] at h
  exact ⟨hf.1 t k h.1.2 h.2, hd k h.1.1 h.1.2⟩
theorem dep_val {ρ : Nat → Value} {a : Act} {W : World} {t k : Nat} {X : Value} (hd : DepsR l Φr ρ W) (hf : FindsR l a0 Φr ρ a) (h : depB l Φr.length t k = true) (hx : nthR Φr k = fun x _ => x = X) : a.tmps[t]? = some X := by
  obtain ⟨h1, h2⟩ := dep_get hd hf h
  rw [hx] at h2
  rw [h1]
  exact congrArg some h2
theorem init_get {ρ : Nat → Value} {a : Act} {t : Nat} (hf : FindsR l a0 Φr ρ a) (h : initB l Φr.length t = true) : a.tmps[t]? = a0.tmps[t]? := by
  simp only [initB, Bool.and_eq_true] at h
  exact hf.2 t h.1 (by simpa using h.2)
theorem guard_val {ρ : Nat → Value} {W : World} {t k : Nat} {X : Value} (hd : DepsR l Φr ρ W) (h : depB l Φr.length t k = true) (hx : nthR Φr k = fun x _ => x = X) : ρ k = X := by
  simp only [depB, Bool.and_eq_true, decide_eq_true_eq, beq_iff_eq] at h
  have h2 := hd k h.1.1 h.1.2
  rw [hx] at h2
  exact h2
theorem rgl_step {o : Oper} {todo : List Oper} (φ : Value → World → Prop) (hst : ∀ v W W', φ v W → R W W' → φ v W')
    (h : ∀ (ρ : Nat → Value) (a : Act) (W : World), R w W → DepsR l Φr ρ W → FindsR l a0 Φr ρ a → match o.guard with
      | none => YieldM P R W φ ((execOp a.eval o).run P W)
      | some (j, b) => (ρ j = .bool b → YieldM P R W φ ((execOp a.eval o).run P W)) ∧ (ρ j ≠ .bool b → φ undef W))
    (rest : RGL P l a0 w R Q (φ :: Φr) todo) : RGL P l a0 w R Q Φr (o :: todo) := by
  intro hl
  have hlt : Φr.length < l.length := by
    rcases Nat.lt_or_ge Φr.length l.length with h | h
    · exact h
    · rw [List.drop_eq_nil_of_le h] at hl; cases hl
  rw [List.drop_eq_getElem_cons hlt] at hl
  injection hl with ho hl
  have hr := rest (by rw [List.length_cons]; exact hl)
  rw [List.reverse_cons] at hr
  refine rg_step φ ?_ hst hr
  intro o' ho' ρ a W hR hd hf
  have e : o' = o := by
    rw [List.length_reverse] at ho'
    simp [hlt] at ho'
    rw [← ho', ho]
  subst e
  refine h ρ a W hR (fun k hk hw => ?_) (by unfold FindsR; rw [List.length_reverse] at hf; exact hf)
  rw [← nth_reverse hk]
  exact hd k (by rw [List.length_reverse]; exact hk) (by rw [List.length_reverse]; exact hw)
theorem rgl_val {o : Oper} {todo : List Oper} {v : Value} (hg : o.guard = none) (hrefl : ∀ W, R W W)
    (h : ∀ (ρ : Nat → Value) (a : Act) (W : World), R w W → DepsR l Φr ρ W → FindsR l a0 Φr ρ a → (execOp a.eval o).run P W = .ok (.value v) W)
    (rest : RGL P l a0 w R Q ((fun x _ => x = v) :: Φr) todo) : RGL P l a0 w R Q Φr (o :: todo) := by
  refine rgl_step _ (fun v W W' h _ => h) (fun ρ a W hR hd hf => ?_) rest
  rw [hg]
  simp only
  rw [h ρ a W hR hd hf]
  exact ⟨hrefl W, rfl⟩
theorem rgl_valg {o : Oper} {todo : List Oper} {v : Value} {j : Nat} {b : Bool} (hg : o.guard = some (j, b)) (hrefl : ∀ W, R W W) (hj : ∀ (ρ : Nat → Value) (W : World), DepsR l Φr ρ W → ρ j = .bool b)
    (h : ∀ (ρ : Nat → Value) (a : Act) (W : World), R w W → DepsR l Φr ρ W → FindsR l a0 Φr ρ a → (execOp a.eval o).run P W = .ok (.value v) W)
    (rest : RGL P l a0 w R Q ((fun x _ => x = v) :: Φr) todo) : RGL P l a0 w R Q Φr (o :: todo) := by
  refine rgl_step _ (fun v W W' h _ => h) (fun ρ a W hR hd hf => ?_) rest
  rw [hg]
  simp only
  refine ⟨fun _ => ?_, fun hne => absurd (hj ρ W hd) hne⟩
  rw [h ρ a W hR hd hf]
  exact ⟨hrefl W, rfl⟩
theorem rgl_skip {o : Oper} {todo : List Oper} {j : Nat} {b c : Bool} (hg : o.guard = some (j, b)) (hbc : c ≠ b) (hj : ∀ (ρ : Nat → Value) (W : World), DepsR l Φr ρ W → ρ j = .bool c)
    (rest : RGL P l a0 w R Q ((fun x _ => x = undef) :: Φr) todo) : RGL P l a0 w R Q Φr (o :: todo) := by
  refine rgl_step _ (fun v W W' h _ => h) (fun ρ a W hR hd hf => ?_) rest
  rw [hg]
  simp only
  refine ⟨fun he => ?_, fun _ => trivial⟩
  rw [hj ρ W hd] at he
  injection he with he
  exact absurd he hbc
/-- An operation that is skipped because the one that it hangs on was skipped. -/
theorem rgl_skip' {o : Oper} {todo : List Oper} {j : Nat} {b : Bool} (hg : o.guard = some (j, b)) (hj : ∀ (ρ : Nat → Value) (W : World), DepsR l Φr ρ W → ρ j = undef)
    (rest : RGL P l a0 w R Q ((fun x _ => x = undef) :: Φr) todo) : RGL P l a0 w R Q Φr (o :: todo) := by
  refine rgl_step _ (fun v W W' h _ => h) (fun ρ a W hR hd hf => ?_) rest
  rw [hg]
  simp only
  refine ⟨fun he => ?_, fun _ => trivial⟩
  rw [hj ρ W hd] at he
  cases he
/-- A call, by its contract. -/
theorem rgl_call {o : Oper} {todo : List Oper} (φ : Value → World → Prop) (hg : o.guard = none) (hrefl : ∀ W, R W W) (hst : ∀ v W W', φ v W → R W W' → φ v W')
    (h : ∀ (ρ : Nat → Value) (a : Act) (W : World), R w W → DepsR l Φr ρ W → FindsR l a0 Φr ρ a → ∃ f args, (execOp a.eval o).run P W = .ok (.enter f args) W ∧ Calls P f args W fun e W' => ∃ v, e = .returned v ∧ R W W' ∧ φ v W')
    (rest : RGL P l a0 w R Q (φ :: Φr) todo) : RGL P l a0 w R Q Φr (o :: todo) := by
  refine rgl_step φ hst (fun ρ a W hR hd hf => ?_) rest
  rw [hg]
  simp only
  obtain ⟨f, args, h1, h2⟩ := h ρ a W hR hd hf
  rw [h1]
  exact ⟨hrefl W, h2⟩
theorem rgl_callg {o : Oper} {todo : List Oper} {j : Nat} {b : Bool} (φ : Value → World → Prop) (hg : o.guard = some (j, b)) (hrefl : ∀ W, R W W) (hst : ∀ v W W', φ v W → R W W' → φ v W') (hj : ∀ (ρ : Nat → Value) (W : World), DepsR l Φr ρ W → ρ j = .bool b)
    (h : ∀ (ρ : Nat → Value) (a : Act) (W : World), R w W → DepsR l Φr ρ W → FindsR l a0 Φr ρ a → ∃ f args, (execOp a.eval o).run P W = .ok (.enter f args) W ∧ Calls P f args W fun e W' => ∃ v, e = .returned v ∧ R W W' ∧ φ v W')
    (rest : RGL P l a0 w R Q (φ :: Φr) todo) : RGL P l a0 w R Q Φr (o :: todo) := by
  refine rgl_step φ hst (fun ρ a W hR hd hf => ?_) rest
  rw [hg]
  simp only
  refine ⟨fun _ => ?_, fun hne => absurd (hj ρ W hd) hne⟩
  obtain ⟨f, args, h1, h2⟩ := h ρ a W hR hd hf
  rw [h1]
  exact ⟨hrefl W, h2⟩
/-- An operation of which a property is told. -/
theorem rgl_pred {o : Oper} {todo : List Oper} (φ : Value → World → Prop) (hg : o.guard = none) (hst : ∀ v W W', φ v W → R W W' → φ v W')
    (h : ∀ (ρ : Nat → Value) (a : Act) (W : World), R w W → DepsR l Φr ρ W → FindsR l a0 Φr ρ a → ∃ v W', (execOp a.eval o).run P W = .ok (.value v) W' ∧ R W W' ∧ φ v W')
    (rest : RGL P l a0 w R Q (φ :: Φr) todo) : RGL P l a0 w R Q Φr (o :: todo) := by
  refine rgl_step φ hst (fun ρ a W hR hd hf => ?_) rest
  rw [hg]
  simp only
  obtain ⟨v, W', h1, h2⟩ := h ρ a W hR hd hf
  rw [h1]
  exact h2
theorem rgl_predg {o : Oper} {todo : List Oper} {j : Nat} {b : Bool} (φ : Value → World → Prop) (hg : o.guard = some (j, b)) (hst : ∀ v W W', φ v W → R W W' → φ v W') (hj : ∀ (ρ : Nat → Value) (W : World), DepsR l Φr ρ W → ρ j = .bool b)
    (h : ∀ (ρ : Nat → Value) (a : Act) (W : World), R w W → DepsR l Φr ρ W → FindsR l a0 Φr ρ a → ∃ v W', (execOp a.eval o).run P W = .ok (.value v) W' ∧ R W W' ∧ φ v W')
    (rest : RGL P l a0 w R Q (φ :: Φr) todo) : RGL P l a0 w R Q Φr (o :: todo) := by
  refine rgl_step φ hst (fun ρ a W hR hd hf => ?_) rest
  rw [hg]
  simp only
  refine ⟨fun _ => ?_, fun hne => absurd (hj ρ W hd) hne⟩
  obtain ⟨v, W', h1, h2⟩ := h ρ a W hR hd hf
  rw [h1]
  exact h2
theorem tells_nth : ∀ (Φr : List (Value → World → Prop)) (ρ : Nat → Value) (W : World), (∀ i, i < Φr.length → nthR Φr i (ρ i) W) → Tells Φr ρ W
  | [], _, _, _ => trivial
  | φ :: r, ρ, W, h => by
    refine ⟨?_, tells_nth r ρ W fun i hi => ?_⟩
    · have := h r.length (by simp)
      simpa [nthR] using this
    · have := h i (by simp; omega)
      unfold nthR at this ⊢
      rw [List.length_cons, show r.length + 1 - 1 - i = (r.length - 1 - i) + 1 from by omega, List.getD_cons_succ] at this
      exact this
theorem rgl_done (hl : Φr.length = l.length) (h : ∀ ρ W, R w W → Tells Φr ρ W → Q .normal (putAll l 0 ρ a0) W) : RGL P l a0 w R Q Φr [] := by
  intro _
  refine rg_done (by simp [hl]) fun ρ W hR ht => ?_
  refine h ρ W hR (tells_nth Φr ρ W fun i hi => ?_)
  rw [← nth_reverse hi]
  exact ht i (by simp; omega)
theorem region_list {id : Nat} {l : List Oper} {a : Act} {w : World} (R : World → World → Prop) (hm : P.follows .mixedOrders = true) (hB : soloB l.toArray = true) (hn : boundB l.toArray a.tmps.size = true) (Rrefl : ∀ W, R W W) (Rtrans : ∀ a b c, R a b → R b c → R a c)
    (h : RGL P l a { w with drawn := w.drawn + 1 } R Q [] l) : (Code.region id l.toArray true).wp P Q a w :=
  region_mono R hm hB hn Rrefl Rtrans (h rfl)
theorem RG.world {ops : Array Oper} {w' : World} {Φs : List (Value → World → Prop)} (hw : ∀ W, R w' W → R w W) (h : RG P ops a0 w R Q Φs) : RG P ops a0 w' R Q Φs := by
  obtain ⟨Φ, h1, h2, h3⟩ := h
  exact ⟨Φ, h1, fun i hi hl => ⟨fun o ho ρ a W hR hd hf => (h2 i hi hl).1 o ho ρ a W (hw W hR) hd hf, (h2 i hi hl).2⟩, fun ρ W hR ht => h3 ρ W (hw W hR) ht⟩
theorem rr (W : World) : Below W.heap.size W W := Below.refl _ _
theorem rt (a b c : World) (h : Below a.heap.size a b) (k : Below b.heap.size b c) : Below a.heap.size a c := h.trans (k.mono h.size)
/-- The region's operations only make memory. -/
theorem region_below {id : Nat} {l : List Oper} {a : Act} {w : World} (hm : P.follows .mixedOrders = true) (hB : soloB l.toArray = true) (hn : boundB l.toArray a.tmps.size = true)
    (h : RGL P l a w (fun W W' => Below W.heap.size W W') Q [] l) : (Code.region id l.toArray true).wp P Q a w :=
  region_mono (fun W W' => Below W.heap.size W W') hm hB hn rr rt (RG.world (w := w) (R := fun W W' => Below W.heap.size W W') (fun W hR => ⟨hR.os, hR.tape, hR.output, hR.size, hR.block⟩) (h rfl))
end
end Go.Proofs.YtcpojpgdjjmfbaaDoor.Mono
