/- The page's Parse of layer 29: words, and the short ways. -/
import Derived.Test.YtjkmgakgjoojfaaDoorCenH
import Derived.Test.YtjkmgakgjoojfaaDoorLocI
import Derived.Test.YtjkmgakgjoojfaaDoorStr
namespace Go.Proofs.YtjkmgakgjoojfaaDoor
set_option maxRecDepth 100000
set_option linter.unusedVariables false
set_option linter.unusedSimpArgs false
open Go.RowKit
theorem numC_any {ad : Option Addr} {c : Nat} {l : List UInt8} {w : World} {B : Nat} (h : Byt w B (.slice ad l.length c) l) (hl : l.length ≤ 100000) (hc : l.length ≤ c) (p n : Nat) (hp : p + n ≤ l.length) (hn : n ≤ 8) :
    Calls Tryd.prog 30 #[.slice ad l.length c, .int .i64 (p : Nat), .int .i64 (n : Nat)] w fun e w' => e = .returned (.int .i64 (IntKind.i64.wrap (rd l p n : Nat))) ∧ w' = w := by
  obtain ⟨a', c', hsl, _, hby⟩ := cut_byt h hc p (p + n) (by omega) hp
  rw [show p + n - p = n by omega] at hby hsl
  have HN := Lib.hid (refNumber_B hby (by rw [List.length_take]; omega))
  have HW : Hid (IntKind.i64.wrap ((p : Int) + (n : Int)) = (p : Int) + n) := Lib.hid (IntWalk.i64_in _ (by omega))
  have hsl' : ∀ W : World, (Instr.slice 33 (.slice ad l.length c) (some (.int .i64 (p : Nat))) (some (.int .i64 ((p : Int) + (n : Int)))) none).run Tryd.prog W = .ok (.slice a' n c') W := by
    intro W
    have := hsl W
    rw [show ((p + n : Nat) : Int) = (p : Int) + (n : Int) by omega] at this
    exact this
  have HS := Lib.hid hsl'
  clear hsl hsl' hby h
  go_enter Tryd.func30, Tryd.ntmps30
  have hs := HS.out w
  clear HS
  go_wp2_with (fail)
  refine HN.out.mono ?_
  rintro e w' ⟨rfl, rfl⟩
  go_wp2_with (fail)
  go_ret
  exact ⟨by rw [IntWalk.i64_left]; rfl, rfl⟩
theorem numC_small {ad : Option Addr} {c : Nat} {l : List UInt8} {w : World} {B : Nat} (h : Byt w B (.slice ad l.length c) l) (hl : l.length ≤ 100000) (hc : l.length ≤ c) (p n x : Nat) (hp : p + n ≤ l.length) (hn : n ≤ 4) (hx : rd l p n = x) :
    Calls Tryd.prog 30 #[.slice ad l.length c, .int .i64 (p : Nat), .int .i64 (n : Nat)] w fun e w' => e = .returned (.int .i64 (x : Nat)) ∧ w' = w := by
  have := numC_any h hl hc p n hp (by omega)
  have hb := rd_lt l p n
  have hb2 : 256 ^ n ≤ 256 ^ 4 := pow256_le hn
  have hb3 : (256 : Nat) ^ 4 = 4294967296 := by decide
  rw [IntWalk.i64_in _ (by omega), hx] at this
  exact this
theorem three_le {l : List UInt8} {n s8 p8 a8 k : Nat} (h8 : rd l (50 + n) 8 = s8 ∧ rd l (58 + n) 8 = p8 ∧ rd l (66 + n) 8 = a8) (h : s8 ≤ 8589934592 ∧ p8 ≤ 8589934592 ∧ a8 ≤ 8589934592) (hk : k < 3) : rd l (50 + n + 8 * k) 8 ≤ 8589934592 := by
  match k, hk with
  | 0, _ => rw [show 50 + n + 8 * 0 = 50 + n by omega, h8.1]; exact h.1
  | 1, _ => rw [show 50 + n + 8 * 1 = 58 + n by omega, h8.2.1]; exact h.2.1
  | 2, _ => rw [show 50 + n + 8 * 2 = 66 + n by omega, h8.2.2]; exact h.2.2
/-- A new block of a header's cells. -/
def NewH (w : World) (v : Value) (W : World) : Prop := ∃ b, v = .pointer (some ⟨b, 0, none⟩) ∧ w.heap.size ≤ b ∧ b < W.heap.size ∧ Own W b [.string ByteArray.empty, .int .i64 0, .int .i64 0, .int .i64 0, .int .i64 0, .int .i64 0, .int .i64 0, .int .i64 0, .int .u32 0, .int .i64 0, .int .i64 0, .bool false, .bool false]
theorem hstNewH {w : World} : ∀ v W W', (fun v W => NewH w v W) v W → Below W.heap.size W W' → (fun v W => NewH w v W) v W' := by
  rintro v W W' ⟨b, h1, h2, h3, h4⟩ hb
  exact ⟨b, h1, h2, Nat.lt_of_lt_of_le h3 hb.size, h4.below hb h3⟩
theorem NewH.new {w W : World} (hR : Below w.heap.size w W) : NewH w (.pointer (some ⟨W.heap.size, 0, none⟩)) (W.alloc (.cells #[.string ByteArray.empty, .int .i64 0, .int .i64 0, .int .i64 0, .int .i64 0, .int .i64 0, .int .i64 0, .int .i64 0, .int .u32 0, .int .i64 0, .int .i64 0, .bool false, .bool false] 30)) :=
  ⟨_, rfl, hR.size, by simp, Own.new_at W [.string ByteArray.empty, .int .i64 0, .int .i64 0, .int .i64 0, .int .i64 0, .int .i64 0, .int .i64 0, .int .i64 0, .int .u32 0, .int .i64 0, .int .i64 0, .bool false, .bool false] 30 W.heap.size rfl⟩
/-- The page's header that bytes tell. -/
def hdr29 (l : List UInt8) : Value := hdrV (nmC l) (rd l 12 2) (rd l 14 2) (rd l 10 2) (rd l 16 4) (pkC l) (szC l) (gwC l) (glC l)
/-- What the page's Parse does. -/
def PPC (l : List UInt8) (w : World) (e : Ending) (w' : World) : Prop :=
  (PAD l ∧ e = .returned (.tuple #[hdr29 l, .int .i64 (plC l), .int .i64 (endC l : Nat)]) ∧ Below w.heap.size w w') ∨
  (¬ PAD l ∧ e = .returned (.tuple #[.agg #[.string ByteArray.empty, .int .i64 0, .int .i64 0, .int .i64 0, .int .i64 0, .int .i64 0, .int .i64 0, .int .i64 0, .int .u32 0, .int .i64 0, .int .i64 0, .bool false, .bool false], .int .i64 0, .int .i64 0]) ∧ Below w.heap.size w w')
set_option maxHeartbeats 4000000 in
set_option maxRecDepth 100000 in
theorem rparseC_short (ad : Option Addr) (c : Nat) (l : List UInt8) (w : World) (hs : l.length < 46) : Calls Tryd.prog 13 #[.slice ad l.length c] w (PPC l w) := by
  have t0 : decide ((l.length : Int) < 46) = true := by simp; omega
  have HN : Hid (¬ PAD l) := Lib.hid (fun p => by have := p.len; omega)
  have HB := Lib.hid (((Below.refl w.heap.size w).alloc (Nat.le_refl _) (.cells #[.string ByteArray.empty, .int .i64 0, .int .i64 0, .int .i64 0, .int .i64 0, .int .i64 0, .int .i64 0, .int .i64 0, .int .u32 0, .int .i64 0, .int .i64 0, .bool false, .bool false] 30)).alloc (by simp) (.cells #[.string ByteArray.empty, .int .i64 0, .int .i64 0, .int .i64 0, .int .i64 0, .int .i64 0, .int .i64 0, .int .i64 0, .int .u32 0, .int .i64 0, .int .i64 0, .bool false, .bool false] 30))
  clear hs
  go_enter Tryd.func13, Tryd.ntmps13
  go_wp2
  exact bodyPost_ret (v := .tuple #[.agg #[.string ByteArray.empty, .int .i64 0, .int .i64 0, .int .i64 0, .int .i64 0, .int .i64 0, .int .i64 0, .int .i64 0, .int .u32 0, .int .i64 0, .int .i64 0, .bool false, .bool false], .int .i64 0, .int .i64 0]) (by simp [results, Tryd.results13, go_sem] <;> rfl) rfl (.inr ⟨HN.out, rfl, HB.out⟩)
set_option maxHeartbeats 4000000 in
set_option maxRecDepth 100000 in
theorem rparseC_long (ad : Option Addr) (c : Nat) (l : List UInt8) (w : World) (n : Nat) (hl : l.length ≤ 100000) (h46 : 46 ≤ l.length) (hn : l.length < 46 + n) (HN : Hid (¬ PAD l)) (N28 : Hid (∀ W : World, Below w.heap.size w W → Calls Tryd.prog 30 #[.slice ad l.length c, .int .i64 28, .int .i64 2] W fun e w' => e = .returned (.int .i64 (n : Nat)) ∧ w' = W)) : Calls Tryd.prog 13 #[.slice ad l.length c] w (PPC l w) := by
  have t0 : decide ((l.length : Int) < 46) = false := by simp; omega
  have q1 : IntKind.i64.wrap ((l.length : Int) - 46) = (l.length : Int) - 46 := IntWalk.i64_in _ (by omega)
  have t1 : decide ((l.length : Int) - 46 < (n : Int)) = true := by simp; omega
  have HB := Lib.hid (((Below.refl w.heap.size w).alloc (Nat.le_refl _) (.cells #[.string ByteArray.empty, .int .i64 0, .int .i64 0, .int .i64 0, .int .i64 0, .int .i64 0, .int .i64 0, .int .i64 0, .int .u32 0, .int .i64 0, .int .i64 0, .bool false, .bool false] 30)).alloc (by simp) (.cells #[.string ByteArray.empty, .int .i64 0, .int .i64 0, .int .i64 0, .int .i64 0, .int .i64 0, .int .i64 0, .int .i64 0, .int .u32 0, .int .i64 0, .int .i64 0, .bool false, .bool false] 30))
  clear h46 hn hl
  go_enter Tryd.func13, Tryd.ntmps13
  go_wp2_with (fail)
  refine (N28.out _ HB.out).mono ?_
  rintro e w' ⟨rfl, hw'⟩
  subst w'
  go_wp2
  exact bodyPost_ret (v := .tuple #[.agg #[.string ByteArray.empty, .int .i64 0, .int .i64 0, .int .i64 0, .int .i64 0, .int .i64 0, .int .i64 0, .int .i64 0, .int .u32 0, .int .i64 0, .int .i64 0, .bool false, .bool false], .int .i64 0, .int .i64 0]) (by simp [results, Tryd.results13, go_sem] <;> rfl) rfl (.inr ⟨HN.out, rfl, HB.out⟩)
end Go.Proofs.YtjkmgakgjoojfaaDoor
