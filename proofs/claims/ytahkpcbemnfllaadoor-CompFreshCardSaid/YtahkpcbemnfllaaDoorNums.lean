/- nums.Bits, Zeros, Below, Ceil: their walks. -/
import Derived.Test.YtahkpcbemnfllaaDoorProg
import Derived.Test.YtahkpcbemnfllaaDoorBase
import Derived.WalkKit
import Derived.BigQuiet
import Derived.Deep.QuietTactic
import Derived.Lib.Hide
import Derived.Outline
set_option linter.unusedVariables false
set_option linter.unusedSimpArgs false
namespace Go.Proofs.YtahkpcbemnfllaaDoor.Nums
open Go.RowKit Go.Proofs.YtahkpcbemnfllaaDoor.Base

/-! ### 1. Digits -/
def nbits (n : Nat) : Nat := if h : n = 0 then 0 else nbits (n / 2) + 1
termination_by n
decreasing_by omega
theorem nbits_zero : nbits 0 = 0 := by rw [nbits]; rfl
theorem nbits_pos {n : Nat} (h : n ≠ 0) : nbits n = nbits (n / 2) + 1 := by rw [nbits, dif_neg h]
theorem nbits_lt (n : Nat) : n < 2 ^ nbits n := by
  induction n using Nat.strongRecOn with
  | _ n ih =>
    by_cases h : n = 0
    · subst h; rw [nbits_zero]; decide
    · have := ih (n / 2) (by omega)
      rw [nbits_pos h, Nat.pow_succ]; omega
theorem nbits_le {n : Nat} (h : n ≠ 0) : 2 ^ (nbits n - 1) ≤ n := by
  induction n using Nat.strongRecOn with
  | _ n ih =>
    rw [nbits_pos h, Nat.add_sub_cancel]
    by_cases h2 : n / 2 = 0
    · rw [h2, nbits_zero]; omega
    · have := ih (n / 2) (by omega) h2
      have h1 : nbits (n / 2) = nbits (n / 2) - 1 + 1 := by rw [nbits_pos h2]; rfl
      rw [h1, Nat.pow_succ]; omega
theorem nbits_le_of_lt (k n : Nat) (h : n < 2 ^ k) : nbits n ≤ k := by
  induction k generalizing n with
  | zero => obtain rfl : n = 0 := by simpa using h
            rw [nbits_zero]; omega
  | succ k ih =>
    by_cases h0 : n = 0
    · subst h0; rw [nbits_zero]; omega
    · have := ih (n / 2) (by rw [Nat.pow_succ] at h; omega)
      rw [nbits_pos h0]; omega
/-- The digits' number by what it means. -/
theorem nbits_eq {n k : Nat} (h0 : 2 ^ k ≤ n) (h1 : n < 2 ^ (k + 1)) : nbits n = k + 1 := by
  have a := nbits_le_of_lt (k + 1) n h1
  have hn : n ≠ 0 := by have := Nat.pow_pos (n := k) (show 0 < 2 by decide); omega
  have b := nbits_lt n
  rcases Nat.lt_or_ge (nbits n) (k + 1) with h | h
  · have := Nat.pow_le_pow_right (show 0 < 2 by decide) (show nbits n ≤ k by omega)
    omega
  · omega
theorem nbits_pow (k : Nat) : nbits (2 ^ k) = k + 1 := nbits_eq (Nat.le_refl _) (by rw [Nat.pow_succ]; have := Nat.pow_pos (n := k) (show 0 < 2 by decide); omega)
def ctz (n : Nat) : Nat := if h : n = 0 ∨ n % 2 = 1 then 0 else ctz (n / 2) + 1
termination_by n
decreasing_by omega
theorem ctz_odd {n : Nat} (h : n % 2 = 1) : ctz n = 0 := by rw [ctz, dif_pos (.inr h)]
theorem ctz_even {n : Nat} (h0 : n ≠ 0) (h : n % 2 = 0) : ctz n = ctz (n / 2) + 1 := by rw [ctz, dif_neg (by omega)]
/-- The greatest power of two that divides. -/
theorem ctz_spec (n : Nat) (h : n ≠ 0) : ∃ q, n = 2 ^ ctz n * q ∧ q % 2 = 1 := by
  induction n using Nat.strongRecOn with
  | _ n ih =>
    by_cases ho : n % 2 = 1
    · exact ⟨n, by rw [ctz_odd ho]; omega, ho⟩
    · obtain ⟨q, hq, hq2⟩ := ih (n / 2) (by omega) (by omega)
      refine ⟨q, ?_, hq2⟩
      rw [ctz_even h (by omega), Nat.pow_succ, Nat.mul_comm (2 ^ _) 2, Nat.mul_assoc, ← hq]
      omega
theorem ctz_lt (k n : Nat) (h : n ≠ 0) (hn : n < 2 ^ k) : ctz n < k := by
  induction k generalizing n with
  | zero => simp at hn; omega
  | succ k ih =>
    by_cases ho : n % 2 = 1
    · rw [ctz_odd ho]; omega
    · have := ih (n / 2) (by omega) (by rw [Nat.pow_succ] at hn; omega)
      rw [ctz_even h (by omega)]; omega
theorem and1 (m : Nat) (h : m < 9223372036854775808) : Go.bits .and .i64 (m : Int) 1 = ((m % 2 : Nat) : Int) := by
  have hk : ∀ n : Int, 0 ≤ n → n < 2 ^ 63 → IntKind.i64.wrap n = n := fun n h0 h1 => by rw [IntKind.wrap_i64]; omega
  have := bits_mask .i64 63 (by decide) hk 1 (by decide) (m : Int) (by omega) (by omega)
  rw [show ((2 : Int) ^ 1 - 1) = 1 from rfl] at this
  rw [this]
  omega

def pow2 (k : Nat) : Int := ((2 ^ k : Nat) : Int)

/-! ### 2. The walks -/
def Num (n : Int) (w : World) (e : Ending) (w' : World) : Prop := e = .returned (.int .i64 n) ∧ w = w'
def Nums (a b : Int) (w : World) (e : Ending) (w' : World) : Prop := e = .returned (.tuple #[.int .i64 a, .int .i64 b]) ∧ w = w'

theorem bits_neg (n : Int) (w : World) (h : n ≤ 0) : Calls Tryd.prog 62 #[.int .i64 n] w (Num 0 w) := by
  go_enter Tryd.func62, Tryd.ntmps62
  go_wp2
  go_loop [0, 3] (fun a b => a = .int .i64 n ∧ b = .int .i64 0) (fun _ _ => 0)
  case atStart => exact ⟨rfl, rfl⟩
  case round =>
    obtain ⟨rfl, rfl⟩ := hrel
    go_wp2
    go_ret
    exact ⟨rfl, rfl⟩
theorem bits_nat (N : Nat) (w : World) (hN : N < 9223372036854775808) : Calls Tryd.prog 62 #[.int .i64 (N : Int)] w (Num (nbits N) w) := by
  go_enter Tryd.func62, Tryd.ntmps62
  go_wp2
  go_loop [0, 3] (fun a b => ∃ (m k : Nat), a = .int .i64 m ∧ b = .int .i64 k ∧ Hid (k + nbits m = nbits N) ∧ m < 9223372036854775808 ∧ k ≤ 63) (fun a _ => (intOf a).toNat)
  case atStart => exact ⟨N, 0, rfl, rfl, Lib.hid (by omega), hN, by omega⟩
  case round =>
    obtain ⟨m, k, rfl, rfl, hs, hm, hk⟩ := hrel
    by_cases h0 : m = 0
    · subst h0
      go_wp2
      go_ret
      refine ⟨?_, rfl⟩
      have := hs.out
      rw [nbits_zero] at this
      rw [← this]
      rfl
    · have hp : 0 < m := by omega
      have h2 := nbits_pos h0
      have hle := nbits_le_of_lt 63 N (by omega)
      have hk2 : k + 1 ≤ 63 := by have := hs.out; omega
      have HQ : Hid (k + 1 + nbits (m / 2) = nbits N) := Lib.hid (by have := hs.out; omega)
      clear h2 hle hs h0
      go_wp2
      go_round
      case rel => exact ⟨m / 2, k + 1, by go_num, by go_num, HQ, by omega, by omega⟩
      case measure => simp [intOf]; omega
theorem bits_any (n : Int) (hn : n ≤ 9223372036854775807) (w : World) : Calls Tryd.prog 62 #[.int .i64 n] w (Num (nbits n.toNat) w) := by
  by_cases h : n ≤ 0
  · rw [show n.toNat = 0 by omega, nbits_zero]
    exact bits_neg n w h
  · obtain ⟨N, rfl⟩ := Int.eq_ofNat_of_zero_le (show 0 ≤ n by omega)
    rw [Int.toNat_natCast]
    exact bits_nat N w (by omega)
theorem zeros_neg (n : Int) (w : World) (h : n ≤ 0) : Calls Tryd.prog 49 #[.int .i64 n] w (Num 63 w) := by
  go_enter Tryd.func49, Tryd.ntmps49
  go_wp2
  go_ret
  exact ⟨rfl, rfl⟩
theorem zeros_nat (N : Nat) (w : World) (hN : N < 9223372036854775808) (h0 : 0 < N) : Calls Tryd.prog 49 #[.int .i64 (N : Int)] w (Num (ctz N) w) := by
  go_enter Tryd.func49, Tryd.ntmps49
  go_wp2
  go_loop [0, 3] (fun a b => ∃ (m k : Nat), a = .int .i64 m ∧ b = .int .i64 k ∧ Hid (k + ctz m = ctz N) ∧ 0 < m ∧ m < 9223372036854775808 ∧ k ≤ 63) (fun a _ => (intOf a).toNat)
  case atStart => exact ⟨N, 0, rfl, rfl, Lib.hid (by omega), h0, hN, by omega⟩
  case round =>
    obtain ⟨m, k, rfl, rfl, hs, hp, hm, hk⟩ := hrel
    have ha := and1 m hm
    by_cases ho : m % 2 = 1
    · have hz := ctz_odd ho
      rw [ho] at ha
      have HZ := Lib.hid hz
      clear hz ho
      go_wp2
      go_ret
      refine ⟨?_, rfl⟩
      have h1 := hs.out
      have h2 := HZ.out
      rw [← h1, h2]
      rfl
    · have h2 := ctz_even (show m ≠ 0 by omega) (show m % 2 = 0 by omega)
      have hle := ctz_lt 63 N (by omega) (by omega)
      have hk2 : k + 1 ≤ 63 := by have := hs.out; omega
      have HQ : Hid (k + 1 + ctz (m / 2) = ctz N) := Lib.hid (by have := hs.out; omega)
      rw [show m % 2 = 0 by omega] at ha
      have hp2 : 0 < m / 2 := by omega
      clear h2 hle hs ho
      go_wp2
      go_round
      case rel => exact ⟨m / 2, k + 1, by go_num, by go_num, HQ, by omega, by omega, by omega⟩
      case measure => simp [intOf]; omega
end Go.Proofs.YtahkpcbemnfllaaDoor.Nums
