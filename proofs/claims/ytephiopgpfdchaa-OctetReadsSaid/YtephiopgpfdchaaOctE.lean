/- Contract of octet's Put. -/
import Derived.Test.YtephiopgpfdchaaOctD
namespace Go.Proofs.Ytephiopgpfdchaa
open Go.RowKit
/-- Bytes with others at a place. -/
def putAt (l : List UInt8) (p : Nat) (bs : List UInt8) : List UInt8 := l.take p ++ (bs ++ l.drop (p + bs.length))
theorem putAt_length (l : List UInt8) (p : Nat) (bs : List UInt8) (h : p + bs.length ≤ l.length) : (putAt l p bs).length = l.length := by
  simp [putAt]; omega
theorem bcells_splice (l : List UInt8) (p : Nat) (bs : List UInt8) : splice (bcells l) p (bcells bs) = bcells (putAt l p bs) := by
  simp [splice, bcells, putAt, List.map_take, List.map_drop]
theorem splice_take (C cs : List Value) (p n : Nat) (h1 : p + cs.length ≤ n) (h2 : n ≤ C.length) : (splice C p cs).take n = splice (C.take n) p cs := by
  unfold splice
  have e1 : (C.take p).length = p := by rw [List.length_take]; omega
  have e2 : (C.take n).take p = C.take p := by rw [List.take_take, Nat.min_eq_left (by omega)]
  have e3 : (C.take p).take n = C.take p := List.take_of_length_le (by omega)
  have e4 : cs.take (n - p) = cs := List.take_of_length_le (by omega)
  rw [List.take_append, e1, e3, List.take_append, e4, e2, List.drop_take]
  congr 3
  omega
set_option maxHeartbeats 400000 in
theorem put_no {B : Nat} (a : Option Addr) (cap : Nat) (l : List UInt8) (p n v : Int) (w : World) (h : Byt w B (.slice a l.length cap) l) (hl : l.length ≤ 100000000) (hp : -9223372036854775808 ≤ p ∧ p ≤ 9223372036854775807) (he : existsB l.length p n = false) :
    Calls Try.prog 9 #[.slice a l.length cap, .int .i64 p, .int .i64 n, .int .u64 v] w fun e w' => ∃ v', e = .returned (.tuple #[v', .bool false]) ∧ w'.ownsRow w.heap.size 5 1 v' l.length (bcells l) ∧ Below w.heap.size w w' := by
  have HX := Lib.hid (fun a cap W => exists_any a l.length cap p n W hl hp)
  rw [he] at HX
  have HC := Lib.hid (clone_any h hl)
  clear h he hp
  go_enter Try.func9, Try.ntmps9
  go_wp2_with fail
  refine HC.out.mono ?_
  rintro e w1 ⟨v', rfl, ho, hb⟩
  obtain ⟨a', cap', rfl⟩ := (Byt.of_own ho).slice
  have HO := Lib.hid ho
  have HB := Lib.hid hb
  clear ho hb
  go_wp2_with fail
  refine (HX.out _ _ _).mono ?_
  rintro e w2 ⟨rfl, rfl⟩
  go_wp2
  go_ret2
  exact ⟨_, rfl, HO.out, HB.out⟩
set_option maxHeartbeats 400000 in
theorem put_yes {B : Nat} (a : Option Addr) (cap : Nat) (l : List UInt8) (p n : Int) (v : Nat) (w : World) (h : Byt w B (.slice a l.length cap) l) (hl : l.length ≤ 100000000) (hv : v < 18446744073709551616) (he : existsB l.length p n = true) :
    Calls Try.prog 9 #[.slice a l.length cap, .int .i64 p, .int .i64 n, .int .u64 (v : Nat)] w fun e w' => ∃ v', e = .returned (.tuple #[v', .bool true]) ∧ w'.ownsRow w.heap.size 5 1 v' l.length (bcells (putAt l p.toNat (byt n.toNat v))) ∧ Below w.heap.size w w' := by
  obtain ⟨n1, n2, p1, p2⟩ := existsB_elim he
  have HX := Lib.hid (fun a cap W => exists_any a l.length cap p n W hl (by omega))
  rw [he] at HX
  have HC := Lib.hid (clone_any h hl)
  have HV := Lib.hid hv
  clear h he hv
  go_enter Try.func9, Try.ntmps9
  go_wp2_with fail
  refine HC.out.mono ?_
  rintro e w1 ⟨v', rfl, ho, hb⟩
  obtain ⟨hlen0, ho⟩ := ho
  rcases ho with ⟨_, h0⟩ | ⟨g, cap', cur, rfl, hg, hh, hnc, hcm, hcs, htk⟩
  · omega
  obtain ⟨C⟩ := cur
  have hsl := fun W => slice_lh (t := 22) (e := 5) (size := 1) rfl size_u8 (some ⟨g, 0, none⟩) l.length cap' p (p + n) p1 (by omega) (by omega) W
  rw [if_neg (by omega), show (p + n).toNat - p.toNat = n.toNat from by omega] at hsl
  have hadd : Option.map (fun x => Addr.add x (p.toNat * 1)) (some (⟨g, 0, none⟩ : Addr)) = some ⟨g, p.toNat, none⟩ := by
    by_cases h0 : p.toNat = 0
    · simp [Addr.add, h0]
    · simp [Addr.add, h0]
  rw [hadd] at hsl
  have HH := Lib.hid hh
  have HB := Lib.hid hb
  have hCl : C.length = cap' := by simpa using hcs
  have HTK : Hid (C.take l.length = bcells l) := by show _ = _; simpa using htk
  clear hh hb hadd hcs htk hlen0
  go_wp2_with fail
  refine (HX.out _ _ _).mono ?_
  rintro e w2 ⟨rfl, rfl⟩
  go_wp2_with fail
  refine (encode_any g p.toNat n.toNat _ v w2 (by omega) HV.out (free_of_heap HH.out _ _ (by omega))).mono ?_
  rintro e w3 ⟨rfl, hw3⟩
  have h3 := laid_heap g 5 (0, 0) (byt n.toNat v) w2 p.toNat _ HH.out (by rw [byt_length]; omega)
  rw [← hw3] at h3
  have hgl : g < w2.heap.size := (Array.getElem?_eq_some_iff.1 HH.out).1
  have hown : w3.ownsRow w.heap.size 5 1 (.slice (some ⟨g, 0, none⟩) l.length cap') l.length (bcells (putAt l p.toNat (byt n.toNat v))) := by
    have hpl : (putAt l p.toNat (byt n.toNat v)).length = l.length := putAt_length _ _ _ (by rw [byt_length]; omega)
    refine ⟨by rw [bcells_length, hpl]; omega, .inr ⟨g, cap', _, rfl, hg, h3, hnc, hcm, ?_, ?_⟩⟩
    · simp only [List.size_toArray]
      rw [length_splice _ _ _ (by rw [bcells_length, byt_length]; omega)]
      omega
    · rw [Nat.mul_one]
      show (splice C p.toNat (bcells (byt n.toNat v))).take l.length = _
      rw [← bcells_splice, ← HTK.out]
      exact splice_take C _ p.toNat l.length (by rw [bcells_length, byt_length]; omega) (by omega)
  have hb3 : Below w.heap.size w w3 := by
    obtain ⟨s1, s2, s3, s4⟩ := laid_size g (byt n.toNat v) w2 p.toNat
    rw [← hw3] at s1 s2 s3 s4
    exact ⟨s2.trans HB.out.os, s3.trans HB.out.tape, s4.trans HB.out.output, by rw [s1]; exact HB.out.size, fun k hk => by rw [hw3, laid_block _ _ (by omega)]; exact HB.out.block k hk⟩
  have HO := Lib.hid hown
  have HB3 := Lib.hid hb3
  clear h3 hown hb3 hw3
  go_wp2
  go_ret2
  exact ⟨_, rfl, HO.out, HB3.out⟩
end Go.Proofs.Ytephiopgpfdchaa
