/- The page's Parse of layer 27: the walk. -/
import Derived.Test.YtcpojpgdjjmfbaaDoorLocN
import Derived.Test.YtcpojpgdjjmfbaaDoorMonoT
import Derived.Deep.QuietTactic
import Derived.BigQuiet
import Derived.Test.YtcpojpgdjjmfbaaDoorLocC
import Derived.Test.YtcpojpgdjjmfbaaDoorStr
namespace Go.Proofs.YtcpojpgdjjmfbaaDoor
set_option linter.unusedVariables false
set_option linter.unusedSimpArgs false
set_option maxRecDepth 100000
open Go.RowKit
theorem rd_eq (l : List UInt8) (p n x : Nat) (hp : p + n ≤ l.length) (hx : x < 256 ^ n) : rd l p n = x ↔ (l.drop p).take n = byt n x := by
  unfold rd
  have hl : ((l.drop p).take n).length = n := by rw [List.length_take, List.length_drop]; omega
  constructor
  · intro h
    rw [← h, byt_num _ _ hl]
  · intro h
    rw [h, num_byt, Nat.mod_eq_of_lt hx]
/-- Numbers of so many bytes each, one behind the other. -/
def MT (l : List UInt8) (p : Nat) : List (Nat × Nat) → Prop
  | [] => True
  | (n, x) :: r => rd l p n = x ∧ MT l (p + n) r
def fl : List (Nat × Nat) → List UInt8
  | [] => []
  | (n, x) :: r => byt n x ++ fl r
def wsum : List (Nat × Nat) → Nat
  | [] => 0
  | (n, _) :: r => n + wsum r
def small : List (Nat × Nat) → Prop
  | [] => True
  | (n, x) :: r => x < 256 ^ n ∧ small r
theorem fl_length : ∀ v, (fl v).length = wsum v
  | [] => rfl
  | (n, x) :: r => by simp [fl, wsum, byt_length, fl_length r]
theorem take_split (l A B : List UInt8) (a b : Nat) (ha : A.length = a) : l.take (a + b) = A ++ B ↔ l.take a = A ∧ (l.drop a).take b = B := by
  rw [List.take_add]
  constructor
  · intro h
    by_cases hl : a ≤ l.length
    · have h1 : (l.take a).length = A.length := by rw [List.length_take]; omega
      exact List.append_inj h h1
    · have h2 := congrArg List.length h
      have h3 : (l.drop a).take b = [] := by rw [List.drop_eq_nil_of_le (by omega)]; simp
      rw [h3] at h h2 ⊢
      simp only [List.length_append, List.length_take, List.length_nil] at h2
      omega
  · rintro ⟨h1, h2⟩
    rw [h1, h2]
theorem MT_iff (l : List UInt8) : ∀ (v : List (Nat × Nat)) (p : Nat), p + wsum v ≤ l.length → small v → (MT l p v ↔ (l.drop p).take (wsum v) = fl v)
  | [], p, _, _ => by simp [MT, wsum, fl]
  | (n, x) :: r, p, hp, hs => by
    unfold wsum at hp
    rw [MT, wsum, fl, take_split _ _ _ _ _ (byt_length n x), List.drop_drop, rd_eq l p n x (by omega) hs.1, MT_iff l r (p + n) (by omega) hs.2]
theorem bys_fl (n : Nat) : ∀ l : List Int, bys n l = fl (l.map fun x => (n, x.toNat))
  | [] => rfl
  | x :: l => by
    show byt n x.toNat ++ bys n l = _
    rw [bys_fl n l]
    rfl
theorem fl_append : ∀ u v, fl (u ++ v) = fl u ++ fl v
  | [], v => rfl
  | (n, x) :: u, v => by simp [fl, fl_append u v]
/-- The numbers ahead of the name, and those behind it. -/
def nsA (nz D C me cr pk sz f : Nat) (gw gl : Bool) : List (Nat × Nat) := [(4, 67324752), (2, cond gw 45 20), (2, f), (2, me), (2, C), (2, D), (4, cond gl 0 cr), (4, cond gw 4294967295 (cond gl 0 pk)), (4, cond gw 4294967295 (cond gl 0 sz)), (2, nz), (2, cond gw 20 0)]
def nsB (pk sz : Nat) (gl : Bool) : List (Nat × Nat) := [(2, 1), (2, 16), (8, cond gl 0 sz), (8, cond gl 0 pk)]
theorem recB_ns (nm : ByteArray) (D C me cr pk sz f : Nat) (gw gl : Bool) : recB nm D C me cr pk sz f gw gl = fl (nsA nm.size D C me cr pk sz f gw gl) ++ (nm.data.toList ++ cond gw (fl (nsB pk sz gl)) []) := by
  unfold recB nsA nsB
  cases gw <;> cases gl <;> simp [bys_fl, fl, List.append_assoc]
theorem rec_iff (l : List UInt8) (nm : ByteArray) (D C me cr pk sz f : Nat) (gw gl : Bool) (hl : 30 + nm.size + cond gw 20 0 ≤ l.length) (hD : D < 65536) (hC : C < 65536) (hme : me < 65536) (hcr : cr < 4294967296) (hpk : pk < 4294967296) (hsz : sz < 4294967296) (hf : f < 65536) (hnm : nm.size < 65536) :
    l.take (recB nm D C me cr pk sz f gw gl).length = recB nm D C me cr pk sz f gw gl ↔
    MT l 0 (nsA nm.size D C me cr pk sz f gw gl) ∧ (l.drop 30).take nm.size = nm.data.toList ∧ (gw = true → MT l (30 + nm.size) (nsB pk sz gl)) := by
  have hA : wsum (nsA nm.size D C me cr pk sz f gw gl) = 30 := rfl
  have sA : small (nsA nm.size D C me cr pk sz f gw gl) := by
    unfold nsA small
    cases gw <;> cases gl <;> simp [small] <;> omega
  have hn : nm.data.toList.length = nm.size := Array.length_toList
  rw [MT_iff l _ 0 (by rw [hA]; omega) sA, hA, List.drop_zero]
  rw [recB_len, recB_ns]
  have h30 : (fl (nsA nm.size D C me cr pk sz f gw gl)).length = 30 := by rw [fl_length, hA]
  rw [show 30 + nm.size + cond gw 20 0 = 30 + (nm.size + cond gw 20 0) by omega, take_split _ _ _ _ _ h30]
  refine and_congr Iff.rfl ?_
  rw [take_split _ _ _ _ _ hn, List.drop_drop]
  refine and_congr Iff.rfl ?_
  cases gw with
  | false => simp
  | true =>
    have sB : small (nsB pk sz gl) := by
      unfold nsB small
      cases gl <;> simp [small] <;> omega
    have hB : wsum (nsB pk sz gl) = 20 := rfl
    have hl' : 30 + nm.size + 20 ≤ l.length := hl
    rw [MT_iff l _ (30 + nm.size) (by rw [hB]; omega) sB, hB]
    simp
end Go.Proofs.YtcpojpgdjjmfbaaDoor
namespace Go.Proofs.YtcpojpgdjjmfbaaDoor
set_option linter.unusedVariables false
set_option linter.unusedSimpArgs false
set_option maxRecDepth 100000
open Go.RowKit
/-- A piece of bytes from one place to another. -/
theorem cut_byt {w : World} {B : Nat} {ad : Option Addr} {c : Nat} {l : List UInt8} (h : Byt w B (.slice ad l.length c) l) (hc : l.length ≤ c) (lo hi : Nat) (h1 : lo ≤ hi) (h2 : hi ≤ l.length) :
    ∃ a' c', (∀ W : World, (Instr.slice 31 (.slice ad l.length c) (some (.int .i64 (lo : Nat))) (some (.int .i64 (hi : Nat))) none).run Tryd.prog W = .ok (.slice a' (hi - lo) c') W) ∧ hi - lo ≤ c' ∧ Byt w B (.slice a' (hi - lo) c') ((l.drop lo).take (hi - lo)) := by
  have hsl := fun W => slice_lh (t := 31) (e := 5) (size := 1) Tryd.underlying31 size_u8 ad l.length c (lo : Int) (hi : Int) (by omega) (by omega) (by omega) W
  have hsb := sub_byt h lo (hi - lo) (by omega)
  simp only [Int.toNat_natCast] at hsl
  exact ⟨_, _, hsl, by omega, hsb⟩
theorem cut_end {w : World} {B : Nat} {ad : Option Addr} {c : Nat} {l : List UInt8} (h : Byt w B (.slice ad l.length c) l) (hc : l.length ≤ c) (lo : Nat) (h1 : lo ≤ l.length) :
    ∃ a' c', (∀ W : World, (Instr.slice 31 (.slice ad l.length c) (some (.int .i64 (lo : Nat))) none none).run Tryd.prog W = .ok (.slice a' (l.length - lo) c') W) ∧ l.length - lo ≤ c' ∧ Byt w B (.slice a' (l.length - lo) c') (l.drop lo) := by
  have hsl := fun W => slice_l (t := 31) (e := 5) (size := 1) Tryd.underlying31 size_u8 ad l.length c (lo : Int) (by omega) (by omega) W
  have hsb := sub_byt h lo (l.length - lo) (by omega)
  simp only [Int.toNat_natCast] at hsl
  rw [List.take_of_length_le (by rw [List.length_drop]; omega)] at hsb
  exact ⟨_, _, hsl, by omega, hsb⟩
theorem cut_head {w : World} {B : Nat} {ad : Option Addr} {c : Nat} {l : List UInt8} (h : Byt w B (.slice ad l.length c) l) (hc : l.length ≤ c) (hi : Nat) (h1 : hi ≤ l.length) :
    ∃ a' c', (∀ W : World, (Instr.slice 31 (.slice ad l.length c) none (some (.int .i64 (hi : Nat))) none).run Tryd.prog W = .ok (.slice a' hi c') W) ∧ hi ≤ c' ∧ Byt w B (.slice a' hi c') (l.take hi) := by
  have hsl := fun W => slice_h (t := 31) (e := 5) (size := 1) Tryd.underlying31 size_u8 ad l.length c (hi : Int) (by omega) (by omega) W
  have hsb := sub_byt h 0 hi (by omega)
  simp only [Int.toNat_natCast, Nat.sub_zero] at hsl
  rw [List.drop_zero] at hsb
  simp only [Nat.sub_zero] at hsb
  exact ⟨_, _, hsl, by omega, hsb⟩
theorem num_any {ad : Option Addr} {c : Nat} {l : List UInt8} {w : World} {B : Nat} (h : Byt w B (.slice ad l.length c) l) (hl : l.length ≤ 100000) (hc : l.length ≤ c) (p n : Nat) (hp : p + n ≤ l.length) (hn : n ≤ 8) :
    Calls Tryd.prog 34 #[.slice ad l.length c, .int .i64 (p : Nat), .int .i64 (n : Nat)] w fun e w' => e = .returned (.int .i64 (IntKind.i64.wrap (rd l p n : Nat))) ∧ w' = w := by
  obtain ⟨a', c', hsl, _, hby⟩ := cut_byt h hc p (p + n) (by omega) hp
  rw [show p + n - p = n by omega] at hby hsl
  have HN := Lib.hid (refNumber_B hby (by rw [List.length_take]; omega))
  have HW : Hid (IntKind.i64.wrap ((p : Int) + (n : Int)) = (p : Int) + n) := Lib.hid (IntWalk.i64_in _ (by omega))
  have hsl' : ∀ W : World, (Instr.slice 31 (.slice ad l.length c) (some (.int .i64 (p : Nat))) (some (.int .i64 ((p : Int) + (n : Int)))) none).run Tryd.prog W = .ok (.slice a' n c') W := by
    intro W
    have := hsl W
    rw [show ((p + n : Nat) : Int) = (p : Int) + (n : Int) by omega] at this
    exact this
  have HS := Lib.hid hsl'
  clear hsl hsl' hby h
  go_enter Tryd.func34, Tryd.ntmps34
  have hs := HS.out w
  clear HS
  go_wp2_with (fail)
  refine HN.out.mono ?_
  rintro e w' ⟨rfl, rfl⟩
  go_wp2_with (fail)
  go_ret
  exact ⟨by rw [IntWalk.i64_left]; rfl, rfl⟩
theorem num_small {ad : Option Addr} {c : Nat} {l : List UInt8} {w : World} {B : Nat} (h : Byt w B (.slice ad l.length c) l) (hl : l.length ≤ 100000) (hc : l.length ≤ c) (p n x : Nat) (hp : p + n ≤ l.length) (hn : n ≤ 4) (hx : rd l p n = x) :
    Calls Tryd.prog 34 #[.slice ad l.length c, .int .i64 (p : Nat), .int .i64 (n : Nat)] w fun e w' => e = .returned (.int .i64 (x : Nat)) ∧ w' = w := by
  have := num_any h hl hc p n hp (by omega)
  have hb := rd_lt l p n
  have hb2 : 256 ^ n ≤ 256 ^ 4 := pow256_le hn
  have hb3 : (256 : Nat) ^ 4 = 4294967296 := by decide
  rw [IntWalk.i64_in _ (by omega), hx] at this
  exact this
end Go.Proofs.YtcpojpgdjjmfbaaDoor
namespace Go.Proofs.YtcpojpgdjjmfbaaDoor
set_option linter.unusedVariables false
set_option linter.unusedSimpArgs false
set_option maxRecDepth 100000
open Go.RowKit
def pkN (l : List UInt8) : Nat := cond (gwOf l) (rd l (42 + rd l 26 2) 8) (rd l 18 4)
def szN (l : List UInt8) : Nat := cond (gwOf l) (rd l (34 + rd l 26 2) 8) (rd l 22 4)
theorem wd8_small {l : List UInt8} {p : Nat} (h : rd l p 8 ≤ 67108864) : wd8 l p = (rd l p 8 : Nat) := IntWalk.i64_in _ (by omega)
theorem wd8_back {l : List UInt8} {p : Nat} (h0 : 0 ≤ wd8 l p) : wd8 l p = (rd l p 8 : Nat) := by
  have hb : rd l p 8 < 18446744073709551616 := rd_lt l p 8
  unfold wd8 at *
  rw [IntKind.wrap_i64] at *
  omega
/-- The record that the page would write of a header that bytes tell. -/
def recOf (l : List UInt8) : List UInt8 := recB (nmOf l) (rd l 12 2) (rd l 10 2) (rd l 8 2) (rd l 14 4) (pkN l) (szN l) (fN (nmOf l) (glOf l)) (gwOf l) (glOf l)
theorem nm_size (l : List UInt8) (h : 30 + rd l 26 2 ≤ l.length) : (nmOf l).size = rd l 26 2 := by
  show ((l.drop 30).take (rd l 26 2)).length = _
  rw [List.length_take, List.length_drop]; omega
structure PAC (l : List UInt8) : Prop where
  len : 30 + rd l 26 2 ≤ l.length
  tm : tmB (rd l 12 2) (rd l 10 2) = true
  wd : gwOf l = true → 50 + rd l 26 2 ≤ l.length ∧ szN l ≤ 67108864 ∧ pkN l ≤ 67108864
  ck : lcode (chk (nmOf l)) true (rd l 8 2 : Nat) (pkN l : Nat) (szN l : Nat) = 0
  lt : glOf l = true → rd l 14 4 = 0 ∧ pkN l = 0 ∧ szN l = 0
  fit : (recOf l).length ≤ l.length
  eq : l.take (recOf l).length = recOf l
theorem flag_eq (l : List UInt8) : (fN (nmOf l) (glOf l) : Int) = flagI (nmOf l) (glOf l) := (fN_eq _ _).symm
theorem pk_ge {l : List UInt8} (h : 0 ≤ pkL l) : pkL l = (pkN l : Nat) := by
  unfold pkL pkN at *
  revert h
  cases gwOf l with
  | false => exact fun _ => rfl
  | true => exact fun h => wd8_back h
theorem sz_ge {l : List UInt8} (h : 0 ≤ szL l) : szL l = (szN l : Nat) := by
  unfold szL szN at *
  revert h
  cases gwOf l with
  | false => exact fun _ => rfl
  | true => exact fun h => wd8_back h
theorem pk_le {l : List UInt8} (h : gwOf l = true → pkN l ≤ 67108864) : pkL l = (pkN l : Nat) := by
  unfold pkL pkN at *
  cases hg : gwOf l with
  | false => rfl
  | true => exact wd8_small (by have := h hg; rw [hg] at this; exact this)
theorem sz_le {l : List UInt8} (h : gwOf l = true → szN l ≤ 67108864) : szL l = (szN l : Nat) := by
  unfold szL szN at *
  cases hg : gwOf l with
  | false => rfl
  | true => exact wd8_small (by have := h hg; rw [hg] at this; exact this)
theorem pk_bd (l : List UInt8) (hc : lcode (chk (nmOf l)) true (rd l 8 2 : Nat) (pkN l : Nat) (szN l : Nat) = 0) : pkN l < 4294967296 ∧ szN l < 4294967296 := by
  have := lcode_0 hc; omega
/-- All that the record's bytes must be. -/
theorem rec_all (l : List UInt8) (hlen : 30 + rd l 26 2 + cond (gwOf l) 20 0 ≤ l.length) (hb : pkN l < 4294967296 ∧ szN l < 4294967296) :
    l.take (recOf l).length = recOf l ↔ MT l 0 (nsA (nmOf l).size (rd l 12 2) (rd l 10 2) (rd l 8 2) (rd l 14 4) (pkN l) (szN l) (fN (nmOf l) (glOf l)) (gwOf l) (glOf l)) ∧ (l.drop 30).take (nmOf l).size = (nmOf l).data.toList ∧ (gwOf l = true → MT l (30 + (nmOf l).size) (nsB (pkN l) (szN l) (glOf l))) := by
  have hn := nm_size l (by omega)
  have b1 : rd l 12 2 < 65536 := rd_lt l 12 2
  have b2 : rd l 10 2 < 65536 := rd_lt l 10 2
  have b3 : rd l 8 2 < 65536 := rd_lt l 8 2
  have b4 : rd l 14 4 < 4294967296 := rd_lt l 14 4
  have b5 : rd l 26 2 < 65536 := rd_lt l 26 2
  exact rec_iff l _ _ _ _ _ _ _ _ _ _ (by rw [hn]; exact hlen) b1 b2 b3 b4 hb.1 hb.2 (Nat.lt_of_le_of_lt (fN_le _ _) (by decide)) (by rw [hn]; exact b5)
theorem PAC.acc {l : List UInt8} (p : PAC l) : ACC l := by
  have hb := pk_bd l p.ck
  have hn := nm_size l p.len
  have hlen : 30 + rd l 26 2 + cond (gwOf l) 20 0 ≤ l.length := by
    cases hg : gwOf l with
    | false => have := p.len; simpa using this
    | true => have := (p.wd hg).1; show 30 + rd l 26 2 + 20 ≤ _; omega
  obtain ⟨h1, h2, h3⟩ := (rec_all l hlen hb).1 p.eq
  have hpk := pk_le (fun h => (p.wd h).2.2)
  have hsz := sz_le (fun h => (p.wd h).2.1)
  obtain ⟨m0, m4, m6, m8, m10, m12, m14, m18, m22, m26, m28, _⟩ := h1
  simp only [Nat.zero_add, Nat.reduceAdd] at m4 m6 m18 m22 m28
  refine ⟨p.len, m0, p.tm, ?_, ?_, m28, ?_, ?_, ?_⟩
  · unfold verI
    rw [m4]; cases gwOf l <;> rfl
  · rw [m6]; exact flag_eq l
  · intro hg
    obtain ⟨k0, k2, _⟩ := h3 hg
    rw [hg] at m18 m22
    rw [hn] at k0 k2
    exact ⟨m18, m22, by have := (p.wd hg).1; omega, k0, k2⟩
  · intro hg
    obtain ⟨a, b, c⟩ := p.lt hg
    rw [hpk, hsz, b, c]
    exact ⟨a, rfl, rfl⟩
  · rw [hpk, hsz]; exact p.ck
theorem ACC.pac {l : List UInt8} (p : ACC l) : PAC l := by
  have hn := nm_size l p.len
  have hl0 := lcode_0 p.ck
  have hpk := pk_ge hl0.2.2.2.2.2.1
  have hsz := sz_ge hl0.2.2.2.1
  have hck : lcode (chk (nmOf l)) true (rd l 8 2 : Nat) (pkN l : Nat) (szN l : Nat) = 0 := by rw [← hpk, ← hsz]; exact p.ck
  have hb := pk_bd l hck
  have hlen : 30 + rd l 26 2 + cond (gwOf l) 20 0 ≤ l.length := by
    cases hg : gwOf l with
    | false => have := p.len; simpa using this
    | true => have := (p.wd hg).2.2.1; show 30 + rd l 26 2 + 20 ≤ _; omega
  have hlt : glOf l = true → rd l 14 4 = 0 ∧ pkN l = 0 ∧ szN l = 0 := by
    intro hg
    obtain ⟨a, b, c⟩ := p.lt hg
    rw [hpk] at b; rw [hsz] at c
    exact ⟨a, by omega, by omega⟩
  have hv : gwOf l = true → rd l 4 2 = 45 := by intro h; unfold gwOf at h; simpa using h
  have hv' : gwOf l = false → rd l 4 2 = 20 := by
    intro h
    have := p.ver
    rw [h] at this
    have h2 : (rd l 4 2 : Int) = 20 := this
    omega
  have hfl : rd l 6 2 = fN (nmOf l) (glOf l) := by
    have h1 := p.fl
    rw [← flag_eq] at h1
    omega
  refine ⟨p.len, p.tm, fun hg => ?_, hck, hlt, ?_, ?_⟩
  · have := (p.wd hg).2.2.1
    refine ⟨by omega, ?_, ?_⟩ <;> omega
  · unfold recOf
    rw [recB_len, hn]; exact hlen
  · refine (rec_all l hlen hb).2 ⟨?_, ?_, ?_⟩
    · unfold nsA
      simp only [MT, Nat.zero_add, Nat.reduceAdd]
      refine ⟨p.mg, ?_, hfl, trivial, trivial, trivial, ?_, ?_, ?_, hn.symm, p.ex, trivial⟩
      · cases hg : gwOf l with
        | false => exact hv' hg
        | true => exact hv hg
      · cases hg : glOf l with
        | false => rfl
        | true => exact (hlt hg).1
      · cases hg : gwOf l with
        | true => exact (p.wd hg).1
        | false =>
          have e : pkN l = rd l 18 4 := by unfold pkN; rw [hg]; rfl
          cases hl : glOf l with
          | false => exact e.symm
          | true => show rd l 18 4 = 0; rw [← e]; exact (hlt hl).2.1
      · cases hg : gwOf l with
        | true => exact (p.wd hg).2.1
        | false =>
          have e : szN l = rd l 22 4 := by unfold szN; rw [hg]; rfl
          cases hl : glOf l with
          | false => exact e.symm
          | true => show rd l 22 4 = 0; rw [← e]; exact (hlt hl).2.2
    · rw [hn]; rfl
    · intro hg
      obtain ⟨w1, w2, w3, w4, w5⟩ := p.wd hg
      have e1 : pkN l = rd l (42 + rd l 26 2) 8 := by unfold pkN; rw [hg]; rfl
      have e2 : szN l = rd l (34 + rd l 26 2) 8 := by unfold szN; rw [hg]; rfl
      unfold nsB
      rw [hn]
      simp only [MT]
      refine ⟨w4, w5, ?_, ?_, trivial⟩
      · rw [show 30 + rd l 26 2 + 2 + 2 = 34 + rd l 26 2 by omega, ← e2]
        cases hl : glOf l with
        | false => rfl
        | true => exact (hlt hl).2.2
      · rw [show 30 + rd l 26 2 + 2 + 2 + 8 = 42 + rd l 26 2 by omega, ← e1]
        cases hl : glOf l with
        | false => rfl
        | true => exact (hlt hl).2.1
theorem acc_pac (l : List UInt8) : ACC l ↔ PAC l := ⟨ACC.pac, PAC.acc⟩
theorem date_back (D : Nat) : dN (1980 + (D : Int) / 512) ((D : Int) / 32 % 16) ((D : Int) % 32) = D := by
  unfold dN Dos.dateOf; omega
theorem clock_back (C : Nat) : cN ((C : Int) / 2048) ((C : Int) / 32 % 64) ((C : Int) % 32 * 2) = C := by
  unfold cN Dos.clockOf; omega
theorem endOf_rec (l : List UInt8) (h : 30 + rd l 26 2 ≤ l.length) : (recOf l).length = endOf l := by
  unfold recOf endOf
  rw [recB_len, nm_size l h]
end Go.Proofs.YtcpojpgdjjmfbaaDoor
namespace Go.Proofs.YtcpojpgdjjmfbaaDoor
set_option linter.unusedVariables false
set_option linter.unusedSimpArgs false
set_option maxRecDepth 100000
open Go.RowKit
def ZH : Value := .agg #[.string ByteArray.empty, .int .i64 0, .int .i64 0, .int .i64 0, .int .i64 0, .int .i64 0, .int .i64 0, .int .i64 0, .int .u32 0, .int .i64 0, .int .i64 0, .bool false, .bool false]
/-- A new block of a header's cells. -/
def NewH (w : World) (v : Value) (W : World) : Prop := ∃ b, v = .pointer (some ⟨b, 0, none⟩) ∧ w.heap.size ≤ b ∧ b < W.heap.size ∧ Own W b [.string ByteArray.empty, .int .i64 0, .int .i64 0, .int .i64 0, .int .i64 0, .int .i64 0, .int .i64 0, .int .i64 0, .int .u32 0, .int .i64 0, .int .i64 0, .bool false, .bool false]
theorem hstNewH {w : World} : ∀ v W W', (fun v W => NewH w v W) v W → Below W.heap.size W W' → (fun v W => NewH w v W) v W' := by
  rintro v W W' ⟨b, h1, h2, h3, h4⟩ hb
  exact ⟨b, h1, h2, Nat.lt_of_lt_of_le h3 hb.size, h4.below hb h3⟩
theorem NewH.new {w W : World} (hR : Below w.heap.size w W) : NewH w (.pointer (some ⟨W.heap.size, 0, none⟩)) (W.alloc (.cells #[.string ByteArray.empty, .int .i64 0, .int .i64 0, .int .i64 0, .int .i64 0, .int .i64 0, .int .i64 0, .int .i64 0, .int .u32 0, .int .i64 0, .int .i64 0, .bool false, .bool false] 28)) :=
  ⟨_, rfl, hR.size, by simp, Own.new_at W [.string ByteArray.empty, .int .i64 0, .int .i64 0, .int .i64 0, .int .i64 0, .int .i64 0, .int .i64 0, .int .i64 0, .int .u32 0, .int .i64 0, .int .i64 0, .bool false, .bool false] 28 W.heap.size rfl⟩
/-- What the page's Parse does. -/
def PPQ (l : List UInt8) (w : World) (e : Ending) (w' : World) : Prop :=
  (PAC l ∧ e = .returned (.tuple #[hdrOf l, .int .i64 (endOf l : Nat)]) ∧ Below w.heap.size w w') ∨
  (¬ PAC l ∧ e = .returned (.tuple #[.agg #[.string ByteArray.empty, .int .i64 0, .int .i64 0, .int .i64 0, .int .i64 0, .int .i64 0, .int .i64 0, .int .i64 0, .int .u32 0, .int .i64 0, .int .i64 0, .bool false, .bool false], .int .i64 0]) ∧ Below w.heap.size w w')
set_option maxHeartbeats 4000000 in
set_option maxRecDepth 100000 in
theorem rparse_short (ad : Option Addr) (c : Nat) (l : List UInt8) (w : World) (hs : l.length < 30) : Calls Tryd.prog 17 #[.slice ad l.length c] w (PPQ l w) := by
  have t0 : decide ((l.length : Int) < 30) = true := by simp; omega
  have HN : Hid (¬ PAC l) := Lib.hid (fun p => by have := p.len; omega)
  have HB := Lib.hid ((Below.refl w.heap.size w).alloc (Nat.le_refl _) (.cells #[.string ByteArray.empty, .int .i64 0, .int .i64 0, .int .i64 0, .int .i64 0, .int .i64 0, .int .i64 0, .int .i64 0, .int .u32 0, .int .i64 0, .int .i64 0, .bool false, .bool false] 28))
  clear hs
  go_enter Tryd.func17, Tryd.ntmps17
  go_wp2
  exact bodyPost_ret (v := .tuple #[.agg #[.string ByteArray.empty, .int .i64 0, .int .i64 0, .int .i64 0, .int .i64 0, .int .i64 0, .int .i64 0, .int .i64 0, .int .u32 0, .int .i64 0, .int .i64 0, .bool false, .bool false], .int .i64 0]) (by simp [results, Tryd.results17, go_sem] <;> rfl) rfl (.inr ⟨HN.out, rfl, HB.out⟩)
set_option maxHeartbeats 4000000 in
set_option maxRecDepth 100000 in
theorem rparse_long (ad : Option Addr) (c : Nat) (l : List UInt8) (w : World) (n : Nat) (hl : l.length ≤ 100000) (h30 : 30 ≤ l.length) (hn : l.length < 30 + n) (HN : Hid (¬ PAC l)) (N26 : Hid (∀ W : World, Below w.heap.size w W → Calls Tryd.prog 34 #[.slice ad l.length c, .int .i64 26, .int .i64 2] W fun e w' => e = .returned (.int .i64 (n : Nat)) ∧ w' = W)) : Calls Tryd.prog 17 #[.slice ad l.length c] w (PPQ l w) := by
  have t0 : decide ((l.length : Int) < 30) = false := by simp; omega
  have q1 : IntKind.i64.wrap ((l.length : Int) - 30) = (l.length : Int) - 30 := IntWalk.i64_in _ (by omega)
  have t1 : decide ((l.length : Int) - 30 < (n : Int)) = true := by simp; omega
  have HB := Lib.hid ((Below.refl w.heap.size w).alloc (Nat.le_refl _) (.cells #[.string ByteArray.empty, .int .i64 0, .int .i64 0, .int .i64 0, .int .i64 0, .int .i64 0, .int .i64 0, .int .i64 0, .int .u32 0, .int .i64 0, .int .i64 0, .bool false, .bool false] 28))
  clear h30 hn hl
  go_enter Tryd.func17, Tryd.ntmps17
  go_wp2_with (fail)
  refine (N26.out _ HB.out).mono ?_
  rintro e w' ⟨rfl, hw'⟩
  subst w'
  go_wp2
  exact bodyPost_ret (v := .tuple #[.agg #[.string ByteArray.empty, .int .i64 0, .int .i64 0, .int .i64 0, .int .i64 0, .int .i64 0, .int .i64 0, .int .i64 0, .int .u32 0, .int .i64 0, .int .i64 0, .bool false, .bool false], .int .i64 0]) (by simp [results, Tryd.results17, go_sem] <;> rfl) rfl (.inr ⟨HN.out, rfl, HB.out⟩)
theorem str_inj {{a b : List UInt8}} (h : str a = str b) : a = b := by
  unfold str at h
  injection h with h
  simpa using h
end Go.Proofs.YtcpojpgdjjmfbaaDoor
