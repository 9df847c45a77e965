/- Contracts of octet's exists, Fits, Get. -/
import Derived.Test.YtephiopgpfdchaaOctA
namespace Go.Proofs.Ytephiopgpfdchaa
open Go.RowKit
theorem rightW_true {n : Int} (h1 : 1 ≤ n) (h2 : n ≤ 8) : rightW n = true := by simp [rightW, h1, h2]
theorem rightW_false {n : Int} (h : n < 1 ∨ 8 < n) : rightW n = false := by simp [rightW]; omega
theorem rightW_elim {n : Int} (h : rightW n = true) : 1 ≤ n ∧ n ≤ 8 := by simpa [rightW] using h
theorem rightW_elim_no {n : Int} (h : rightW n = false) : n < 1 ∨ 8 < n := by simp [rightW] at h; omega
def existsB (len : Nat) (at_ n : Int) : Bool := rightW n && decide (0 ≤ at_) && decide (at_ ≤ (len : Int) - n)
theorem exists_any (a : Option Addr) (len cap : Nat) (p n : Int) (w : World) (hl : len ≤ 100000000) (_hp : -9223372036854775808 ≤ p ∧ p ≤ 9223372036854775807) :
    Calls Try.prog 21 #[.slice a len cap, .int .i64 p, .int .i64 n] w fun e w' => e = .returned (.bool (existsB len p n)) ∧ w' = w := by
  have HR := Lib.hid (fun W => right_any n W)
  cases hr : rightW n with
  | false =>
    have H : Hid (existsB len p n = false) := by show _ = _; simp [existsB, hr]
    rw [hr] at HR
    clear hr
    go_enter Try.func21, Try.ntmps21
    go_wp2_with fail
    refine (HR.out _).mono ?_
    rintro e w' ⟨rfl, rfl⟩
    go_wp2
    go_ret
    exact ⟨by rw [H.out]; simp, rfl⟩
  | true =>
    obtain ⟨n1, n2⟩ := rightW_elim hr
    by_cases h0 : 0 ≤ p
    · by_cases h1 : p ≤ (len : Int) - n
      · have H : Hid (existsB len p n = true) := by show _ = _; simp [existsB, hr, h0, h1]
        rw [hr] at HR
        clear hr
        go_enter Try.func21, Try.ntmps21
        go_wp2_with fail
        refine (HR.out _).mono ?_
        rintro e w' ⟨rfl, rfl⟩
        go_wp2
        go_ret
        exact ⟨by rw [H.out]; simp, rfl⟩
      · have H : Hid (existsB len p n = false) := by show _ = _; simp [existsB, h1]
        have d1 : decide (p ≤ (len : Int) - n) = false := by simpa using h1
        rw [hr] at HR
        clear hr
        go_enter Try.func21, Try.ntmps21
        go_wp2_with fail
        refine (HR.out _).mono ?_
        rintro e w' ⟨rfl, rfl⟩
        go_wp2
        go_ret
        exact ⟨by rw [H.out]; simp, rfl⟩
    · have H : Hid (existsB len p n = false) := by show _ = _; simp [existsB, h0]
      have d1 : decide (0 ≤ p) = false := by simpa using h0
      rw [hr] at HR
      clear hr
      go_enter Try.func21, Try.ntmps21
      go_wp2_with fail
      refine (HR.out _).mono ?_
      rintro e w' ⟨rfl, rfl⟩
      go_wp2
      go_ret
      exact ⟨by rw [H.out]; simp, rfl⟩
def fitsB (v : Nat) (n : Int) : Bool := rightW n && decide (v < 256 ^ n.toNat)
theorem fits_any (v : Nat) (n : Int) (w : World) (hv : v < 18446744073709551616) :
    Calls Try.prog 10 #[.int .u64 (v : Nat), .int .i64 n] w fun e w' => e = .returned (.bool (fitsB v n)) ∧ w' = w := by
  have HR := Lib.hid (fun W => right_any n W)
  have HV := Lib.hid hv
  clear hv
  cases hr : rightW n with
  | false =>
    have H : Hid (fitsB v n = false) := by show _ = _; simp [fitsB, hr]
    rw [hr] at HR
    clear hr
    go_enter Try.func10, Try.ntmps10
    go_wp2_with fail
    refine (HR.out _).mono ?_
    rintro e w' ⟨rfl, rfl⟩
    go_wp2
    go_ret
    exact ⟨by rw [H.out]; simp, rfl⟩
  | true =>
    obtain ⟨n1, n2⟩ := rightW_elim hr
    by_cases h8 : n = 8
    · subst h8
      have H : Hid (fitsB v 8 = true) := by
        show _ = _
        have := HV.out
        simp only [fitsB, hr, Bool.true_and, decide_eq_true_eq]
        exact this
      rw [hr] at HR
      clear hr
      go_enter Try.func10, Try.ntmps10
      go_wp2_with fail
      refine (HR.out _).mono ?_
      rintro e w' ⟨rfl, rfl⟩
      go_wp2
      go_ret
      exact ⟨by rw [H.out]; simp, rfl⟩
    · have h8b : (n == 8) = false := by simp [h8]
      obtain ⟨k, rfl⟩ : ∃ k : Nat, n = k := ⟨n.toNat, by omega⟩
      have hk : (256 : Nat) ^ k = 2 ^ (8 * k) := pow256 k
      have HF : Hid (fitsB v k = ((v : Int) / 2 ^ (8 * k) == 0)) := by
        show _ = _
        have e : (v : Int) / 2 ^ (8 * k) = ((v / 2 ^ (8 * k) : Nat) : Int) := by simp
        simp only [fitsB, hr, Bool.true_and, Int.toNat_natCast, hk, e]
        rw [Bool.eq_iff_iff]
        simp only [decide_eq_true_eq, beq_iff_eq, Int.natCast_eq_zero]
        rw [Nat.div_eq_zero_iff]
        have : 0 < 2 ^ (8 * k) := Nat.pow_pos (by decide)
        omega
      rw [hr] at HR
      clear hr hk h8
      go_enter Try.func10, Try.ntmps10
      go_wp2_with fail
      refine (HR.out _).mono ?_
      rintro e w' ⟨rfl, rfl⟩
      go_wp2
      go_ret
      exact ⟨by rw [HF.out]; simp, rfl⟩
end Go.Proofs.Ytephiopgpfdchaa
