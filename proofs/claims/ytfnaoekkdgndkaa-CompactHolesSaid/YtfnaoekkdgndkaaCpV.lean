/- An append to a row of the call's own: the row's block is the old one, or a new one. -/
import Derived.Test.YtfnaoekkdgndkaaCpT
namespace Go.Proofs.Ytfnaoekkdgndkaa
set_option maxRecDepth 100000
set_option linter.unusedVariables false
set_option linter.unusedSimpArgs false
open Go.RowKit
theorem append_where {w : World} {base e size t bytes n m c : Nat} {v v' : Value} {w' : World} {xs news : List Value} {z : Value} {i : TypeInfo} {ty : TypeId} {a : Addr} (ht : Try.prog.underlying t = some (.slice e)) (hi : Try.prog.info? e = some i) (hz : i.zero = some z) (hsize : i.size = size) (hby : i.bytes = bytes) (hzs : z.cells.size = size) (hsz : 0 < size)
    (hown : w.ownsRow base e size v n xs) (hl : news.length = m * size) (hnews : ∀ j u, news[j]? = some u → w.cell? (a.add j) = some u) (h1 : ∀ u ∈ news, u.oneCell' = true) (h63 : n + m ≤ maxLen) (hbytes : (n + m) * bytes ≤ 140737488355328)
    (hr : (Builtin.append_ #[t, t] ty #[v, .slice (some a) m c]).run Try.prog w = .ok v' w') : v'.ownBlock = v.ownBlock ∨ ∀ g, v'.ownBlock = some g → w.heap.size ≤ g := by
  rcases hown.2 with ⟨rfl, rfl⟩ | ⟨g, cap, cur, rfl, hbg, hg, hnc, hcm, hcs, htake⟩
  · have hx : xs = [] := List.eq_nil_of_length_eq_zero (by simpa using hown.1)
    subst hx
    obtain ⟨v2, w2, hr2, h2, _⟩ := run_append_own (P := Try.prog) w w.heap.size t ty e i z size bytes ht hi hz hsize hby hzs hsz (.slice none 0 0) 0 [] (World.ownsRow_nil _ _ _ _) a m c news hl hnews h1 h63 hbytes (Nat.le_refl _)
    rw [hr] at hr2
    injection hr2 with e1 e2
    subst e1
    exact .inr fun g hg => (World.ownsRow.lt h2 g hg).1
  · by_cases hroom : n + m ≤ cap
    · have hfit : n * i.size + news.length ≤ cur.size := by rw [hl, hcs, hsize, ← Nat.add_mul]; exact Nat.mul_le_mul_right _ hroom
      have hr2 := run_append_room (P := Try.prog) w t ty e i ht hi g n cap cur hg a m c news (by rw [hsize]; exact hl) hnews h1 hroom hfit
      rw [hr] at hr2
      injection hr2 with e1 e2
      subst e1
      exact .inl rfl
    · obtain ⟨v2, w2, hr2, h2, _⟩ := run_append_arg_grows (P := Try.prog) w t ty e i z size bytes ht hi hz hsize hby hzs hsz ⟨g, 0, none⟩ n cap xs hown.1 (fun j u hj => World.ownsRow.cells hown (g := g) rfl j u hj) a m c news hl hnews (by omega) h63 hbytes
      rw [hr] at hr2
      injection hr2 with e1 e2
      subst e1
      exact .inr fun q hq => (World.ownsRow.lt h2 q hq).1
theorem step_append_row2 {e size t bytes base n : Nat} {v : Value} {xs : List Value} {z : Value} (ht : Try.prog.underlying t = some (.slice e)) (hinfo : (Try.prog.info? e).map (fun i => (i.zero, i.size, i.bytes)) = some (some z, size, bytes)) (hzs : z.cells.size = size) (hsz : 0 < size)
    {ops : Array Oper} {o : Oper} {a : Act} {w : World} {K : Act → World → Prop} {Q : Exit → Act → World → Prop} {E : Prop} (hgd : o.guard = none) (s x : Operand)
    (ho : o.op = .call { callee := .builtin .append, args := #[s, x], argTypes := #[t, t] }) (hs : a.eval s = v) (hown : Row base e size w v n xs)
    {B : Nat} {u : Value} {m : Nat} {news : List Value} (hx : a.eval x = u) (hsl : Sl w B size u (m + 1) news) (h1 : ∀ u ∈ news, u.oneCell' = true) (hn : n + (m + 1) ≤ 1000000000000) (hby : (n + (m + 1)) * bytes ≤ 140737488355328) (hbase : base ≤ w.heap.size)
    (h : ∀ v' w', Row base e size w' v' (n + (m + 1)) (xs ++ news) → Below base w w' → w.grownBy w' v.ownBlock → (v'.ownBlock = v.ownBlock ∨ ∀ g, v'.ownBlock = some g → w.heap.size ≤ g) → K (a.put o.dst v') w') : if Region.wanted o (yielded ops a.tmps) = true then Oper.wp Try.prog o a w K Q else E := by
  have hw : Region.wanted o (yielded ops a.tmps) = true := by simp [Region.wanted, hgd]
  rw [if_pos hw]
  obtain ⟨i0, hi, hz0, hz1, hz2⟩ := info_parts hinfo
  obtain ⟨b, off, cap, rfl, hcap, hb, hcells⟩ := hsl.pos (by omega)
  obtain ⟨v', w', hr, h2, h3, _⟩ := run_append_own (P := Try.prog) w base t o.type e i0 z size bytes ht hi hz0 hz1 hz2 hzs hsz v n xs hown ⟨b, off, none⟩ (m + 1) cap news hsl.1 (fun j u hj => by rw [add_plain]; exact hcells j u hj) h1 (by unfold maxLen; omega) hby hbase
  have hwh := append_where ht hi hz0 hz1 hz2 hzs hsz hown hsl.1 (fun j u hj => by rw [add_plain]; exact hcells j u hj) h1 (by unfold maxLen; omega) hby hr
  unfold Oper.wp execOp
  simp only [ho, resolve, invoke, builtin, Sem.run_bind, Sem.run_pure, Result.andThen_ok, List.map_toArray, List.map_cons, List.map_nil, hs, hx, hr]
  exact h v' w' h2 ((Below.refl _ _).grown h3 hbase (fun k hk => (World.ownsRow.lt hown k hk).1)) h3 hwh
section
variable {base e n : Nat} {w w' : World} {us : Nat → Value} {ls : Nat → List Sp}
/-- One of the lists grows. -/
theorem LL.grow {v : Value} {l : List Sp} {j : Nat} (h : LL base e w n us ls) (hj : j < n) (hr : Row base e 2 w' v l.length (lc spC l)) (hgr : w.grownBy w' (us j).ownBlock) (hw : v.ownBlock = (us j).ownBlock ∨ ∀ g, v.ownBlock = some g → w.heap.size ≤ g) : LL base e w' n (updA us j v) (updA ls j l) := by
  have hap : ∀ o, o < n → o ≠ j → ∀ g, (us o).ownBlock = some g → v.ownBlock ≠ some g := by
    intro o ho hne g hg hv
    rcases hw with hw | hw
    · rw [hw] at hv
      exact h.apart o j ho hj hne g hg hv
    · have h1 := hw g hv
      have h2 := (h.lt ho hg).2
      omega
  refine ⟨fun o ho => ?_, fun o o' ho ho' hne g hg hg' => ?_⟩
  · by_cases e : o = j
    · subst e; rw [updA_at, updA_at]; exact hr
    · rw [updA_ne _ _ _ e, updA_ne _ _ _ e]
      refine World.ownsRow.kept (h.row o ho) hgr ?_
      cases hq : (us o).ownBlock with
      | none => exact .inl rfl
      | some g => exact .inr fun hc => h.apart o j ho hj e g hq hc.symm
  · by_cases e : o = j
    · subst e
      rw [updA_at] at hg
      rw [updA_ne _ _ _ (fun q => hne q.symm)] at hg'
      exact hap o' ho' (fun q => hne q.symm) g hg' hg
    · rw [updA_ne _ _ _ e] at hg
      by_cases e' : o' = j
      · subst e'
        rw [updA_at] at hg'
        exact hap o ho e g hg hg'
      · rw [updA_ne _ _ _ e'] at hg'
        exact h.apart o o' ho ho' hne g hg hg'
end
theorem bit_and (x : Nat) (hx : x < 256) : bits .and .u8 (x : Int) 1 = ((x % 2 : Nat) : Int) := by
  have : ∀ x : Fin 256, bits .and .u8 ((x.val : Nat) : Int) 1 = ((x.val % 2 : Nat) : Int) := by decide +kernel
  exact this ⟨x, hx⟩
end Go.Proofs.Ytfnaoekkdgndkaa
