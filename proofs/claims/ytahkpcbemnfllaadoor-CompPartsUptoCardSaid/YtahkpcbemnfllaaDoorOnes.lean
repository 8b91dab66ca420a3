/- nums.Ones counts the ones of a number's binary digits: its walk, over a world that holds the table of sixteen. -/
import Derived.Test.YtahkpcbemnfllaaDoorProg
import Derived.Test.YtahkpcbemnfllaaDoorBase
import Derived.Deep.Draws
import Derived.WalkKit
import Derived.BigQuiet
import Derived.Deep.QuietTactic
import Derived.Outline
set_option linter.unusedVariables false
set_option linter.unusedSimpArgs false
namespace Go.Proofs.YtahkpcbemnfllaaDoor.Ones
open Go.RowKit Go.Proofs.YtahkpcbemnfllaaDoor.Base

structure Aside0 (p : Prop) : Prop where mk :: (out : p)

def popc (n : Nat) : Nat := if h : n = 0 then 0 else n % 2 + popc (n / 2)
termination_by n
decreasing_by omega
theorem popc_zero : popc 0 = 0 := by rw [popc]; rfl
theorem popc_pos {n : Nat} (h : n ≠ 0) : popc n = n % 2 + popc (n / 2) := by rw [popc, dif_neg h]
theorem popc_step (n : Nat) : popc n = n % 2 + popc (n / 2) := by
  by_cases h : n = 0
  · subst h; rw [popc_zero]
  · exact popc_pos h
theorem popc_le (k n : Nat) (h : n < 2 ^ k) : popc n ≤ k := by
  induction k generalizing n with
  | zero => obtain rfl : n = 0 := by simpa using h
            rw [popc_zero]; omega
  | succ k ih =>
    rw [popc_step]
    have := ih (n / 2) (by rw [Nat.pow_succ] at h; omega)
    omega
def halves : List Int := [0, 1, 1, 2, 1, 2, 2, 3, 1, 2, 2, 3, 2, 3, 3, 4]
theorem popc16 (n : Nat) : (popc n : Int) = halves.getD (n % 16) 0 + popc (n / 16) := by
  rw [popc_step n, popc_step (n / 2), popc_step (n / 2 / 2), popc_step (n / 2 / 2 / 2)]
  rw [show n / 2 / 2 / 2 / 2 = n / 16 by omega]
  have h : ∀ m, m < 16 → halves.getD m 0 = ((m % 2 + (m / 2 % 2 + (m / 2 / 2 % 2 + m / 2 / 2 / 2 % 2)) : Nat) : Int) := by decide
  rw [h (n % 16) (by omega)]
  omega
theorem and15 (m : Nat) (h : m < 9223372036854775808) : Go.bits .and .i64 (m : Int) 15 = ((m % 16 : Nat) : Int) := by
  have hk : ∀ n : Int, 0 ≤ n → n < 2 ^ 63 → IntKind.i64.wrap n = n := fun n h0 h1 => by rw [IntKind.wrap_i64]; omega
  have := bits_mask .i64 63 (by decide) hk 4 (by decide) (m : Int) (by omega) (by omega)
  rw [show ((2 : Int) ^ 4 - 1) = 15 from rfl] at this
  rw [this]
  omega
/-- The world holds the table. -/
def Table (w : World) : Prop := ∀ i : Nat, i < 16 → w.cell? ⟨0, i, none⟩ = some (.int .i64 (halves.getD i 0))

theorem ones_neg (n : Int) (w : World) (h : n ≤ 0) : Calls Tryd.prog 32 #[.int .i64 n] w fun e w' => e = .returned (.int .i64 0) ∧ w = w' := by
  go_enter Tryd.func32, Tryd.ntmps32
  go_wp2
  go_loop [0, 3] (fun a b => a = .int .i64 n ∧ b = .int .i64 0) (fun _ _ => 0)
  case atStart => exact ⟨rfl, rfl⟩
  case round =>
    obtain ⟨rfl, rfl⟩ := hrel
    go_wp2
    go_ret
    exact ⟨rfl, rfl⟩
set_option maxHeartbeats 1000000 in
theorem ones_nat (N : Nat) (w : World) (hN : N < 9223372036854775808) (HT : Aside0 (Table w)) : Calls Tryd.prog 32 #[.int .i64 (N : Int)] w fun e w' => e = .returned (.int .i64 (popc N : Int)) ∧ w = w' := by
  go_enter Tryd.func32, Tryd.ntmps32
  go_wp2
  go_loop [0, 3] (fun a b => ∃ (m k : Nat), a = .int .i64 m ∧ b = .int .i64 k ∧ Aside0 (k + popc m = popc N) ∧ m < 9223372036854775808 ∧ k ≤ 64) (fun a _ => (intOf a).toNat)
  case atStart => exact ⟨N, 0, rfl, rfl, ⟨by omega⟩, hN, by omega⟩
  case round =>
    obtain ⟨m, k, rfl, rfl, hs, hm, hk⟩ := hrel
    by_cases h0 : m = 0
    · subst h0
      go_wp2
      go_ret
      refine ⟨?_, rfl⟩
      have := hs.out
      rw [popc_zero] at this
      rw [← this]
      rfl
    · have hp : 0 < m := by omega
      have ha := and15 m hm
      have hc := HT.out (m % 16) (by omega)
      have h16 := popc16 m
      have hh : ∀ m, m < 16 → 0 ≤ halves.getD m 0 ∧ halves.getD m 0 ≤ 4 := by decide
      have hr := hh (m % 16) (by omega)
      have hle := popc_le 63 N (by omega)
      have hq : Aside0 (∃ q : Nat, halves.getD (m % 16) 0 = q ∧ k + q + popc (m / 16) = popc N) := ⟨⟨(halves.getD (m % 16) 0).toNat, by omega, by have := hs.out; omega⟩⟩
      obtain ⟨q, hq1, hq2⟩ := hq.out
      rw [hq1] at hc
      clear h16 hh hr hq hs h0
      have HQ := Aside0.mk hq2
      have hkq : k + q ≤ 63 := by omega
      clear hq1 hq2 hle HT hk
      have hr16 : (m : Int) % 16 < 16 := by omega
      go_wp2
      go_round
      case rel => exact ⟨m / 16, k + q, by go_num, by go_num, ⟨HQ.out⟩, by omega, by omega⟩
      case measure => simp [intOf]; omega
theorem ones_any (n : Int) (hn : n ≤ 9223372036854775807) (w : World) (HT : Aside0 (Table w)) : Calls Tryd.prog 32 #[.int .i64 n] w fun e w' => e = .returned (.int .i64 (popc n.toNat : Int)) ∧ w = w' := by
  by_cases h : n ≤ 0
  · rw [show n.toNat = 0 by omega, popc_zero]
    exact ones_neg n w h
  · obtain ⟨N, rfl⟩ := Int.eq_ofNat_of_zero_le (show 0 ≤ n by omega)
    rw [Int.toNat_natCast]
    exact ones_nat N w (by omega) HT
end Go.Proofs.YtahkpcbemnfllaaDoor.Ones
