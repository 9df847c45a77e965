/- Regions that draw their order: a head whose operations only make memory, then a tail in one forced order. -/
import Derived.Test.YtcpojpgdjjmfbaaDoorMono
import Derived.StillTail
namespace Go.Proofs.YtcpojpgdjjmfbaaDoor.Mono
set_option linter.unusedVariables false
set_option linter.unusedSimpArgs false
open Go Go.RowKit
section
variable {P : Program} {ops : Array Oper} {a0 : Act} {w : World} {R : World → World → Prop} {Q : Exit → Act → World → Prop}
theorem unlisted_head {listed : Array Bool} {i n : Nat} (hin : i < n) (hi : listed.getD i true = false) :
    ((List.range n).filter fun j => !listed.getD j true).length = ((List.range n).filter fun j => !(listed.setIfInBounds i true).getD j true).length + 1 := by
  obtain ⟨_, hil⟩ := getD_ft hi
  have hnd : ((List.range n).filter fun j => !listed.getD j true).Nodup := List.Nodup.sublist List.filter_sublist List.nodup_range
  have hmem : i ∈ (List.range n).filter fun j => !listed.getD j true := by
    rw [List.mem_filter, List.mem_range]; exact ⟨by omega, by rw [hi]; rfl⟩
  have he : ((List.range n).filter fun j => !(listed.setIfInBounds i true).getD j true) = ((List.range n).filter fun j => !listed.getD j true).erase i := by
    rw [List.Nodup.erase_eq_filter hnd, List.filter_filter]
    refine List.filter_congr fun j _ => ?_
    by_cases e : i = j
    · subst e; simp [hil]
    · rw [getD_set_other e]; simp [Ne.symm e]
  rw [he, List.length_erase_of_mem hmem]
  have := List.length_pos_of_mem hmem
  omega
theorem mono_head {Φ : Nat → Value → World → Prop} (n : Nat) (hnl : n < ops.size) (hrefl : ∀ W, R W W) (hB : soloB ops = true) (hn : boundB ops a0.tmps.size = true) (Rtrans : ∀ a b c, R a b → R b c → R a c)
    (hst : ∀ k, k < ops.size → ∀ v W W', Φ k v W → R W W' → Φ k v W') (hob : ∀ i, i < n → Ob P ops a0 w R Φ i (Φ i))
    (hs : Region.sinkB .any ops n = true) (hc : Region.chainB .any ops n = true) (hseq : Region.seqB .any ops (ops.size - n) n (Array.replicate n true ++ Array.replicate (ops.size - n) false) = true)
    (hQ : ∀ ρ W, R w W → (∀ i, i < n → Φ i (ρ i) W) → wpList P ops Q (ops.toList.drop n) (putAll (ops.toList.take n) 0 ρ a0) W) :
    ∀ (fuel : Nat) (listed : Array Bool) (a : Act) (W : World) (ρ : Nat → Value), Inv P ops a0 w R Φ listed a W ρ → (∀ t, n ≤ t → t < ops.size → listed.getD t true = false) → ((List.range n).filter fun j => !listed.getD j true).length = fuel → wpAny P .any ops Q (fuel + (ops.size - n)) listed a W := by
  intro fuel
  induction fuel with
  | zero =>
    intro listed a W ρ inv htl hf
    have hnil := List.length_eq_zero_iff.1 hf
    have hall : ∀ i, i < n → listed.getD i false = true := by
      intro i hi
      have h1 : ¬ (i ∈ (List.range n).filter fun j => !listed.getD j true) := by rw [hnil]; simp
      rw [List.mem_filter, List.mem_range] at h1
      have h2 : listed.getD i true = true := by
        cases h : listed.getD i true with
        | true => rfl
        | false => exact absurd ⟨hi, by rw [h]; rfl⟩ h1
      have hi2 : i < listed.size := by rw [inv.size]; omega
      simpa [hi2] using h2
    have hnot : ∀ k, n ≤ k → listed.getD k false = false := by
      intro k hk
      rcases Nat.lt_or_ge k ops.size with h | h
      · exact (getD_ft (htl k hk h)).1
      · simp [Array.getElem?_eq_none (show listed.size ≤ k by rw [inv.size]; exact h)]
    have hle : listed = Array.replicate n true ++ Array.replicate (ops.size - n) false := by
      refine Array.ext (by simp [inv.size]; omega) fun k h1 h2 => ?_
      rcases Nat.lt_or_ge k n with h | h
      · have := hall k h
        rw [Array.getElem_append_left (by simpa using h)]
        simpa [h1] using this
      · have := hnot k h
        rw [Array.getElem_append_right (by simpa using h)]
        simpa [h1] using this
    have e : a = putAll (ops.toList.take n) 0 ρ a0 := by
      have hsz := putAll_size ρ (ops.toList.take n) 0 a0
      have ht : a.tmps = (putAll (ops.toList.take n) 0 ρ a0).tmps := by
        refine Array.ext_getElem? fun t => ?_
        by_cases hex : ∃ k, k < n ∧ dstOf ops k = some t
        · obtain ⟨k, hkn, hk⟩ := hex
          have hkl : k < ops.size := by omega
          have ho : ops[k]? = some ops[k] := Array.getElem?_eq_getElem hkl
          have hod : (ops[k]).dst = some t := by unfold dstOf at hk; rw [ho] at hk; exact hk
          rw [inv.new k t (hall k hkn) hk, putAll_eq ρ t (ops.toList.take n) 0 a0 k ops[k] (by simp [hkn]) hod (dst_lt hn hk) (fun m' o' hm hne hd => ?_)]
          · simp
          · have hm' : ops[m']? = some o' := by
              rw [List.getElem?_take] at hm
              split at hm
              · simpa using hm
              · cases hm
            have hdm : dstOf ops m' = some t := by unfold dstOf; rw [hm']; exact hd
            exact (solo_spec hB k ops[k] ho).2.2.1 m' t hne hdm hk
        · have g1 : ∀ k, listed.getD k false = true → dstOf ops k ≠ some t := by
            intro k hk hd
            rcases Nat.lt_or_ge k n with h | h
            · exact hex ⟨k, h, hd⟩
            · rw [hnot k h] at hk; cases hk
          have g2 : ∀ (m : Nat) (o : Oper), (ops.toList.take n)[m]? = some o → o.dst ≠ some t := by
            intro m o hm hd
            rw [List.getElem?_take] at hm
            split at hm
            · have hm' : ops[m]? = some o := by simpa using hm
              refine hex ⟨m, by assumption, ?_⟩
              unfold dstOf; rw [hm']; exact hd
            · cases hm
          rw [inv.old t g1, putAll_ne ρ t (ops.toList.take n) 0 a0 g2]
      have hdf : a.defers = (putAll (ops.toList.take n) 0 ρ a0).defers := by rw [hsz.2]; exact inv.df
      calc a = ⟨a.tmps, a.defers⟩ := rfl
        _ = putAll (ops.toList.take n) 0 ρ a0 := by rw [ht, hdf]
    have hq := hQ ρ W inv.rel fun i hi => inv.told i (by omega) (hall i hi)
    rw [← e] at hq
    have hdl : (ops.toList.drop n).length = ops.size - n := by simp
    have := wpAny_of_seq (P := P) (md := .any) (Q' := Q) (ops.toList.drop n) n listed a W (fun j => by simp [List.getElem?_drop]) (by rw [hdl, hle]; exact hseq) hq
    rw [hdl] at this
    rw [Nat.zero_add]
    exact this
  | succ fuel ih =>
    intro listed a W ρ inv htl hf
    have hinv : HeadInv .any ops n listed := ⟨inv.size, fun j oj hj hl e he hb => inv.closed j hl e.on (by unfold waits; rw [hj]; exact Array.any_eq_true'.2 ⟨e, he, by simp [hb]⟩), htl⟩
    have hex : ∃ m, m < n ∧ listed.getD m true = false := by
      cases hl : (List.range n).filter fun j => !listed.getD j true with
      | nil => rw [hl] at hf; cases hf
      | cons x xs =>
        have : x ∈ (List.range n).filter fun j => !listed.getD j true := by rw [hl]; simp
        rw [List.mem_filter, List.mem_range] at this
        exact ⟨x, this.1, by simpa using this.2⟩
    rw [show fuel + 1 + (ops.size - n) = (fuel + (ops.size - n)) + 1 by omega]
    refine ⟨fun hnil => ?_, fun i hi => ?_⟩
    · exfalso
      have hallh : ∀ i, i < ops.size → i < n → listed.getD i false = true := by
        intro i
        induction i using Nat.strongRecOn with
        | _ i ihi =>
          intro hi hin
          cases hl : listed.getD i false with
          | true => rfl
          | false =>
            exfalso
            have hio : ops[i]? = some ops[i] := Array.getElem?_eq_getElem hi
            have hmem : i ∈ Region.ready .any ops listed := by
              unfold Region.ready
              rw [List.mem_filter, List.mem_range]
              refine ⟨hi, ?_⟩
              have hl2 : listed.getD i true = false := by
                have : i < listed.size := by rw [inv.size]; exact hi
                simpa [this] using hl
              rw [hl2, hio]
              simp only [Bool.not_false, Bool.true_and, Option.map_some, Option.getD_some]
              refine Array.all_eq_true'.2 fun e he => ?_
              cases hb : Region.binds .any e with
              | false => rfl
              | true =>
                have hw : waits ops i e.on = true := by
                  unfold waits; rw [hio]
                  exact Array.any_eq_true'.2 ⟨e, he, by simp [hb]⟩
                have hlt := (solo_spec hB i _ hio).2.1 _ hw
                simp only [Bool.not_true, Bool.false_or]
                exact ihi e.on hlt (by omega) (by omega)
            rw [hnil] at hmem
            cases hmem
      obtain ⟨m, hm, hmu⟩ := hex
      have := hallh m (by omega) hm
      rw [(getD_ft hmu).1] at this
      cases this
    · obtain ⟨hil, hun, o, ho, hall⟩ := mem_ready' hi
      have hin : i < n := by
        rcases Nat.lt_or_ge i n with h | h
        · exact h
        · obtain ⟨m, hm, hmu⟩ := hex
          exact absurd hi (tail_waits hs hc hnl hinv _ m rfl hm hmu i h)
      obtain ⟨hsel, hlex, hdis, hrd, hgd⟩ := solo_spec hB i o ho
      have hnext : ∀ v W', R W W' → Φ i v W' → wpAny P .any ops Q (fuel + (ops.size - n)) (listed.setIfInBounds i true) (a.put o.dst v) W' := by
        intro v W' hR hφ
        refine ih _ _ _ _ (Inv.step hB hn Rtrans hst inv ho hun hall hR hφ) (fun t h1 h2 => ?_) ?_
        · rw [getD_set_other (by omega)]; exact htl t h1 h2
        · have := unlisted_head (n := n) hin hun
          omega
      have hdeps : Deps ops Φ i ρ W := fun k hk hw => inv.told k (by omega) (hall k hw)
      have hfinds : Finds ops a0 i ρ a := by
        refine ⟨fun t k hw hd => inv.new k t (hall k hw) hd, fun t hf ht => ?_⟩
        rw [ho] at ht
        simp only [Option.map_some, Option.getD_some] at ht
        refine inv.old t fun k hk hd => ?_
        have hkl : k < ops.size := by
          unfold dstOf at hd
          cases hk' : ops[k]? with
          | none => rw [hk'] at hd; cases hd
          | some x => exact (Array.getElem?_eq_some_iff.1 hk').1
        by_cases e : k = i
        · subst e; rw [(getD_ft hun).1] at hk; cases hk
        · rcases hrd t k ht e hd with h | h
          · have h6 := List.all_eq_true.1 hf k (List.mem_range.2 hkl)
            rw [hd, h] at h6
            simp at h6
          · have := inv.closed k hk i h
            rw [(getD_ft hun).1] at this
            cases this
      have hO := hob i hin o ho ρ a W inv.rel hdeps hfinds
      have hrun : YieldM P R W (Φ i) ((execOp a.eval o).run P W) → o.wp P a W (wpAny P .any ops Q (fuel + (ops.size - n)) (listed.setIfInBounds i true)) Q := by
        intro hy
        unfold Oper.wp
        generalize (execOp a.eval o).run P W = r at hy
        cases r with
        | ok n W' =>
          cases n <;> simp only [YieldM] at hy <;> simp only [Oper.upon]
          case value v => exact hnext v W' hy.1 hy.2
          case skip => exact hnext undef W' hy.1 hy.2
          case enter f args =>
            refine hy.2.mono ?_
            rintro e W'' ⟨v, rfl, hR, hφ⟩
            exact hnext v W'' (Rtrans _ _ _ hy.1 hR) hφ
        | halt x W' => simp only [YieldM] at hy
      unfold wpOp
      simp only [ho]
      cases hg : o.guard with
      | none =>
        rw [hg] at hO
        simp only [Region.wanted, hg, if_true]
        exact .inl (hrun hO)
      | some gw =>
        obtain ⟨j, b⟩ := gw
        rw [hg] at hO
        obtain ⟨hwj, t, hdj⟩ := hgd j b hg
        have hy : yielded ops a.tmps j = (match ρ j with | .bool x => some x | _ => none) := by
          unfold yielded
          have : ((ops[j]?).bind (·.dst)).bind (a.tmps[·]?) = some (ρ j) := by
            show (dstOf ops j).bind _ = _
            rw [hdj]
            exact inv.new j t (hall j hwj) hdj
          rw [this]
          cases ρ j <;> rfl
        by_cases he : ρ j = .bool b
        · have hwt : Region.wanted o (yielded ops a.tmps) = true := by simp [Region.wanted, hg, hy, he]
          simp only [hwt, if_true]
          exact .inl (hrun (hO.1 he))
        · have hwt : Region.wanted o (yielded ops a.tmps) = false := by
            simp only [Region.wanted, hg, hy]
            cases hr : ρ j <;> simp
            rename_i x
            rintro rfl
            exact he hr
          simp only [hwt, Bool.false_eq_true, if_false]
          exact hnext undef W (hrefl W) (hO.2 he)
end
section
variable {P : Program} {l : List Oper} {a0 : Act} {w : World} {R : World → World → Prop} {Q : Exit → Act → World → Prop}
/-- What the tail asks of the frame and the world. -/
def tailQ (P : Program) (l : List Oper) (Q : Exit → Act → World → Prop) (n : Nat) : Exit → Act → World → Prop := fun _ a W => wpList P l.toArray Q (l.drop n) a W
/-- The head's operations are told of one after another; RGH: those behind the first ones, up to the n-th. -/
def RGH (P : Program) (l : List Oper) (a0 : Act) (w : World) (R : World → World → Prop) (Q : Exit → Act → World → Prop) (n : Nat) (Φs : List (Value → World → Prop)) : Prop :=
  ∃ Φ : Nat → Value → World → Prop, (∀ i, i < Φs.length → Φ i = nth Φs i) ∧
    (∀ i, Φs.length ≤ i → i < n → Ob P l.toArray a0 w R Φ i (Φ i) ∧ ∀ v W W', Φ i v W → R W W' → Φ i v W') ∧
    (∀ ρ W, R w W → (∀ i, i < n → Φ i (ρ i) W) → wpList P l.toArray Q (l.drop n) (putAll (l.take n) 0 ρ a0) W)
theorem rgh_step {n : Nat} {Φs : List (Value → World → Prop)} (φ : Value → World → Prop) (hob : Ob P l.toArray a0 w R (nth Φs) Φs.length φ) (hst : ∀ v W W', φ v W → R W W' → φ v W') (h : RGH P l a0 w R Q n (Φs ++ [φ])) : RGH P l a0 w R Q n Φs := by
  obtain ⟨Φ, h1, h2, h3⟩ := h
  have hφ : Φ Φs.length = φ := by
    rw [h1 Φs.length (by simp)]; simp [nth]
  have hpre : ∀ i, i < Φs.length → Φ i = nth Φs i := by
    intro i hi
    rw [h1 i (by simp; omega)]
    simp [nth, List.getElem?_append, hi]
  refine ⟨Φ, hpre, fun i hi hl => ?_, h3⟩
  by_cases e : i = Φs.length
  · subst e
    rw [hφ]
    refine ⟨?_, hst⟩
    intro o ho ρ a W hR hd hf
    refine hob o ho ρ a W hR (fun k hk hw => ?_) hf
    have := hd k hk hw
    rw [hpre k hk] at this
    exact this
  · exact h2 i (by simp; omega) hl
/-- What is left of the head. -/
def RGLH (P : Program) (l : List Oper) (a0 : Act) (w : World) (R : World → World → Prop) (Q : Exit → Act → World → Prop) (n : Nat) (Φr : List (Value → World → Prop)) (todo : List Oper) : Prop := (l.take n).drop Φr.length = todo → RGH P l a0 w R Q n Φr.reverse
end
section
variable {P : Program} {l : List Oper} {a0 : Act} {w : World} {R : World → World → Prop} {Q : Exit → Act → World → Prop} {n : Nat} {Φr : List (Value → World → Prop)}
theorem hgl_step {o : Oper} {todo : List Oper} (φ : Value → World → Prop) (hst : ∀ v W W', φ v W → R W W' → φ v W')
    (h : ∀ (ρ : Nat → Value) (a : Act) (W : World), R w W → DepsR l Φr ρ W → FindsR l a0 Φr ρ a → match o.guard with
      | none => YieldM P R W φ ((execOp a.eval o).run P W)
      | some (j, b) => (ρ j = .bool b → YieldM P R W φ ((execOp a.eval o).run P W)) ∧ (ρ j ≠ .bool b → φ undef W))
    (rest : RGLH P l a0 w R Q n (φ :: Φr) todo) : RGLH P l a0 w R Q n Φr (o :: todo) := by
  intro hl
  have hlt : Φr.length < (l.take n).length := by
    rcases Nat.lt_or_ge Φr.length (l.take n).length with h | h
    · exact h
    · rw [List.drop_eq_nil_of_le h] at hl; cases hl
  rw [List.drop_eq_getElem_cons hlt] at hl
  injection hl with ho hl
  have hr := rest (by rw [List.length_cons]; exact hl)
  rw [List.reverse_cons] at hr
  refine rgh_step φ ?_ hst hr
  intro o' ho' ρ a W hR hd hf
  have hlt2 : Φr.length < l.length := by rw [List.length_take] at hlt; omega
  have e : o' = o := by
    rw [List.length_reverse] at ho'
    simp [hlt2] at ho'
    rw [← ho', ← ho, List.getElem_take]
  subst e
  refine h ρ a W hR (fun k hk hw => ?_) (by unfold FindsR; rw [List.length_reverse] at hf; exact hf)
  rw [← nth_reverse hk]
  exact hd k (by rw [List.length_reverse]; exact hk) (by rw [List.length_reverse]; exact hw)
theorem hgl_val {o : Oper} {todo : List Oper} {v : Value} (hg : o.guard = none) (hrefl : ∀ W, R W W)
    (h : ∀ (ρ : Nat → Value) (a : Act) (W : World), R w W → DepsR l Φr ρ W → FindsR l a0 Φr ρ a → (execOp a.eval o).run P W = .ok (.value v) W)
    (rest : RGLH P l a0 w R Q n ((fun x _ => x = v) :: Φr) todo) : RGLH P l a0 w R Q n Φr (o :: todo) := by
  refine hgl_step _ (fun v W W' h _ => h) (fun ρ a W hR hd hf => ?_) rest
  rw [hg]
  simp only
  rw [h ρ a W hR hd hf]
  exact ⟨hrefl W, rfl⟩
theorem hgl_valg {o : Oper} {todo : List Oper} {v : Value} {j : Nat} {b : Bool} (hg : o.guard = some (j, b)) (hrefl : ∀ W, R W W) (hj : ∀ (ρ : Nat → Value) (W : World), DepsR l Φr ρ W → ρ j = .bool b)
    (h : ∀ (ρ : Nat → Value) (a : Act) (W : World), R w W → DepsR l Φr ρ W → FindsR l a0 Φr ρ a → (execOp a.eval o).run P W = .ok (.value v) W)
    (rest : RGLH P l a0 w R Q n ((fun x _ => x = v) :: Φr) todo) : RGLH P l a0 w R Q n Φr (o :: todo) := by
  refine hgl_step _ (fun v W W' h _ => h) (fun ρ a W hR hd hf => ?_) rest
  rw [hg]
  simp only
  refine ⟨fun _ => ?_, fun hne => absurd (hj ρ W hd) hne⟩
  rw [h ρ a W hR hd hf]
  exact ⟨hrefl W, rfl⟩
theorem hgl_skip {o : Oper} {todo : List Oper} {j : Nat} {b c : Bool} (hg : o.guard = some (j, b)) (hbc : c ≠ b) (hj : ∀ (ρ : Nat → Value) (W : World), DepsR l Φr ρ W → ρ j = .bool c)
    (rest : RGLH P l a0 w R Q n ((fun x _ => x = undef) :: Φr) todo) : RGLH P l a0 w R Q n Φr (o :: todo) := by
  refine hgl_step _ (fun v W W' h _ => h) (fun ρ a W hR hd hf => ?_) rest
  rw [hg]
  simp only
  refine ⟨fun he => ?_, fun _ => trivial⟩
  rw [hj ρ W hd] at he
  injection he with he
  exact absurd he hbc
/-- An operation that is skipped because the one that it hangs on was skipped. -/
theorem hgl_skip' {o : Oper} {todo : List Oper} {j : Nat} {b : Bool} (hg : o.guard = some (j, b)) (hj : ∀ (ρ : Nat → Value) (W : World), DepsR l Φr ρ W → ρ j = undef)
    (rest : RGLH P l a0 w R Q n ((fun x _ => x = undef) :: Φr) todo) : RGLH P l a0 w R Q n Φr (o :: todo) := by
  refine hgl_step _ (fun v W W' h _ => h) (fun ρ a W hR hd hf => ?_) rest
  rw [hg]
  simp only
  refine ⟨fun he => ?_, fun _ => trivial⟩
  rw [hj ρ W hd] at he
  cases he
/-- A call, by its contract. -/
theorem hgl_call {o : Oper} {todo : List Oper} (φ : Value → World → Prop) (hg : o.guard = none) (hrefl : ∀ W, R W W) (hst : ∀ v W W', φ v W → R W W' → φ v W')
    (h : ∀ (ρ : Nat → Value) (a : Act) (W : World), R w W → DepsR l Φr ρ W → FindsR l a0 Φr ρ a → ∃ f args, (execOp a.eval o).run P W = .ok (.enter f args) W ∧ Calls P f args W fun e W' => ∃ v, e = .returned v ∧ R W W' ∧ φ v W')
    (rest : RGLH P l a0 w R Q n (φ :: Φr) todo) : RGLH P l a0 w R Q n Φr (o :: todo) := by
  refine hgl_step φ hst (fun ρ a W hR hd hf => ?_) rest
  rw [hg]
  simp only
  obtain ⟨f, args, h1, h2⟩ := h ρ a W hR hd hf
  rw [h1]
  exact ⟨hrefl W, h2⟩
theorem hgl_callg {o : Oper} {todo : List Oper} {j : Nat} {b : Bool} (φ : Value → World → Prop) (hg : o.guard = some (j, b)) (hrefl : ∀ W, R W W) (hst : ∀ v W W', φ v W → R W W' → φ v W') (hj : ∀ (ρ : Nat → Value) (W : World), DepsR l Φr ρ W → ρ j = .bool b)
    (h : ∀ (ρ : Nat → Value) (a : Act) (W : World), R w W → DepsR l Φr ρ W → FindsR l a0 Φr ρ a → ∃ f args, (execOp a.eval o).run P W = .ok (.enter f args) W ∧ Calls P f args W fun e W' => ∃ v, e = .returned v ∧ R W W' ∧ φ v W')
    (rest : RGLH P l a0 w R Q n (φ :: Φr) todo) : RGLH P l a0 w R Q n Φr (o :: todo) := by
  refine hgl_step φ hst (fun ρ a W hR hd hf => ?_) rest
  rw [hg]
  simp only
  refine ⟨fun _ => ?_, fun hne => absurd (hj ρ W hd) hne⟩
  obtain ⟨f, args, h1, h2⟩ := h ρ a W hR hd hf
  rw [h1]
  exact ⟨hrefl W, h2⟩
/-- An operation of which a property is told. -/
theorem hgl_pred {o : Oper} {todo : List Oper} (φ : Value → World → Prop) (hg : o.guard = none) (hst : ∀ v W W', φ v W → R W W' → φ v W')
    (h : ∀ (ρ : Nat → Value) (a : Act) (W : World), R w W → DepsR l Φr ρ W → FindsR l a0 Φr ρ a → ∃ v W', (execOp a.eval o).run P W = .ok (.value v) W' ∧ R W W' ∧ φ v W')
    (rest : RGLH P l a0 w R Q n (φ :: Φr) todo) : RGLH P l a0 w R Q n Φr (o :: todo) := by
  refine hgl_step φ hst (fun ρ a W hR hd hf => ?_) rest
  rw [hg]
  simp only
  obtain ⟨v, W', h1, h2⟩ := h ρ a W hR hd hf
  rw [h1]
  exact h2
theorem hgl_predg {o : Oper} {todo : List Oper} {j : Nat} {b : Bool} (φ : Value → World → Prop) (hg : o.guard = some (j, b)) (hst : ∀ v W W', φ v W → R W W' → φ v W') (hj : ∀ (ρ : Nat → Value) (W : World), DepsR l Φr ρ W → ρ j = .bool b)
    (h : ∀ (ρ : Nat → Value) (a : Act) (W : World), R w W → DepsR l Φr ρ W → FindsR l a0 Φr ρ a → ∃ v W', (execOp a.eval o).run P W = .ok (.value v) W' ∧ R W W' ∧ φ v W')
    (rest : RGLH P l a0 w R Q n (φ :: Φr) todo) : RGLH P l a0 w R Q n Φr (o :: todo) := by
  refine hgl_step φ hst (fun ρ a W hR hd hf => ?_) rest
  rw [hg]
  simp only
  refine ⟨fun _ => ?_, fun hne => absurd (hj ρ W hd) hne⟩
  obtain ⟨v, W', h1, h2⟩ := h ρ a W hR hd hf
  rw [h1]
  exact h2
theorem hgl_done (hl : Φr.length = n) (hn : n ≤ l.length) (h : ∀ ρ W, R w W → Tells Φr ρ W → wpList P l.toArray Q (l.drop n) (putAll (l.take n) 0 ρ a0) W) : RGLH P l a0 w R Q n Φr [] := by
  intro _
  refine ⟨nth Φr.reverse, fun _ _ => rfl, fun i h1 h2 => by rw [List.length_reverse] at h1; omega, fun ρ W hR ht => h ρ W hR (tells_nth Φr ρ W fun i hi => ?_)⟩
  rw [← nth_reverse hi]
  exact ht i (by omega)
/-- The head's operations only make memory; the tail comes in the text's order. -/
theorem region_tail {id : Nat} {l : List Oper} {a : Act} {w : World} (n : Nat) (hm : P.follows .mixedOrders = true) (hB : soloB l.toArray = true) (hn : boundB l.toArray a.tmps.size = true)
    (hT : (decide (n < l.toArray.size) && Region.sinkB .any l.toArray n && Region.chainB .any l.toArray n && Region.seqB .any l.toArray (l.toArray.size - n) n (Array.replicate n true ++ Array.replicate (l.toArray.size - n) false)) = true)
    (h : RGLH P l a w (fun W W' => Below W.heap.size W W') Q n [] (l.take n)) : (Code.region id l.toArray true).wp P Q a w := by
  simp only [Bool.and_eq_true, decide_eq_true_eq] at hT
  obtain ⟨⟨⟨hnl, hs⟩, hc⟩, hseq⟩ := hT
  obtain ⟨Φ, _, h2, h3⟩ := h rfl
  have hdr : ∀ W, Below ({ w with drawn := w.drawn + 1 } : World).heap.size { w with drawn := w.drawn + 1 } W → Below w.heap.size w W := fun W hR => ⟨hR.os, hR.tape, hR.output, hR.size, hR.block⟩
  refine wp_region_any hm ?_
  have key := mono_head (P := P) (ops := l.toArray) (a0 := a) (w := { w with drawn := w.drawn + 1 }) (R := fun W W' => Below W.heap.size W W') (Q := Q) (Φ := fun i => if i < n then Φ i else fun _ _ => True) n hnl rr hB hn rt
    (fun k _ v W W' hv hR => by
      by_cases hk : k < n
      · simp only [hk, if_true] at hv ⊢; exact (h2 k (Nat.zero_le _) hk).2 v W W' hv hR
      · simp only [hk, if_false])
    (fun i hi o ho ρ a' W hR hd hf => by
      have := (h2 i (Nat.zero_le _) hi).1 o ho ρ a' W (hdr W hR) (fun k hk hw => by have := hd k hk hw; simpa [show k < n by omega] using this) hf
      simpa [hi] using this)
    hs hc hseq
    (fun ρ W hR ht => by
      have := h3 ρ W (hdr W hR) (fun i hi => by have := ht i hi; simpa [hi] using this)
      simpa using this)
    n (Array.replicate l.toArray.size false) a { w with drawn := w.drawn + 1 } (fun _ => undef)
  have hf : ∀ k, (Array.replicate l.toArray.size false).getD k false = false := getD_replicate_false _
  rw [show n + (l.toArray.size - n) = l.toArray.size by omega] at key
  refine key ⟨by simp, fun j hj => ?_, rr _, fun k t hk => ?_, fun t _ => rfl, rfl, rfl, fun k _ hk => ?_⟩ (fun t h1 h2 => getD_in (by simpa using h2) (hf t)) ?_
  · rw [hf] at hj; cases hj
  · rw [hf] at hk; cases hk
  · rw [hf] at hk; cases hk
  · rw [List.filter_eq_self.2 (fun j hj => ?_), List.length_range]
    have : j < n := by simpa using hj
    have : j < l.length := by simp at hnl; omega
    simp [this]
end
end Go.Proofs.YtcpojpgdjjmfbaaDoor.Mono
