/- NumsShape: the walk. -/
import Derived.Test.YthmcibahdbglnaaDoorNums
import Derived.Test.YthmcibahdbglnaaDoorOnes
set_option linter.unusedVariables false
namespace Go.Proofs.YthmcibahdbglnaaDoor.Shape
open Go.RowKit Go.Proofs.YthmcibahdbglnaaDoor.Base Go.Proofs.YthmcibahdbglnaaDoor.Nums Go.Proofs.YthmcibahdbglnaaDoor.Ones

def IsTrue (w : World) (e : Ending) (w' : World) : Prop := e = .returned (.bool true) ∧ w = w'
theorem small (n : Int) (w : World) (h : n < 2) (h0 : -9223372036854775808 ≤ n) : Calls Tryd.prog 4 #[.int .i64 n] w (IsTrue w) := by
  have c1 := fun w => below_no n w h
  have c2 : ∀ w, Calls Tryd.prog 13 #[.int .i64 n] w (Num 0 w) := fun w => by
    have := ceil_any n h0 (by omega) w
    rw [show n.toNat - 1 = 0 by omega, nbits_zero] at this
    exact this
  have c3 : ∀ w, Calls Tryd.prog 7 #[.int .i64 1] w (Num 1 w) := fun w => by
    have := bits_any 1 (by decide) w
    have e : nbits (1 : Int).toNat = 1 := nbits_pow 0
    rw [e] at this
    exact this
  have c4 := fun w => zeros_neg 0 w (by decide)
  have C1 := Lib.hid c1
  have C2 := Lib.hid c2
  have C3 := Lib.hid c3
  have C4 := Lib.hid c4
  clear c1 c2 c3 c4
  go_enter Tryd.func4, Tryd.ntmps4
  go_wp2_with (first | (go_at_call 5; refine (C1.out _).mono ?_; rintro e w' ⟨rfl, rfl⟩) | (go_at_call 13; refine (C2.out _).mono ?_; rintro e w' ⟨rfl, rfl⟩) | (go_at_call 7; refine (C3.out _).mono ?_; rintro e w' ⟨rfl, rfl⟩) | (go_at_call 11; refine (C4.out _).mono ?_; rintro e w' ⟨rfl, rfl⟩))
  go_ret
  exact ⟨by simp, rfl⟩
def One (f : FuncId) (a r : Int) (w : World) : Prop := Calls Tryd.prog f #[.int .i64 a] w (Num r w)
set_option maxHeartbeats 1000000 in
theorem great (n p top unit o o2 : Int) (k z c j : Nat) (w : World) (h : 2 ≤ n) (hn : n ≤ 9223372036854775807)
    (C1 : Hid (Calls Tryd.prog 5 #[.int .i64 n] w (Nums p 0 w))) (C2 : Hid (One 9 p 1 w)) (C3 : Hid (One 7 n k w)) (C4 : Hid (One 11 n z w))
    (C5 : Hid (One 13 n c w)) (C6 : Hid (One 7 (n - 1) c w)) (C7 : Hid (One 11 p j w)) (C8 : Hid (One 9 n o w)) (C9 : Hid (One 9 (n / 2) o2 w))
    (hp1 : 1 ≤ p) (hp2 : p < n) (hp3 : n - p ≤ p) (hk1 : 1 ≤ k) (hk2 : k ≤ 63) (hz : z ≤ 62) (hj : j ≤ 62)
    (ht : wrap64 ((2 : Int) ^ (k - 1)) = top) (hu : wrap64 ((2 : Int) ^ z) = unit) (hjp : wrap64 ((2 : Int) ^ j) = p) (ht1 : 1 ≤ top) (hu1 : 1 ≤ unit)
    (s1 : top ≤ n) (s2 : n - top < top) (hq0 : 0 ≤ n / unit) (s3 : (n % unit != 0) = false) (s4 : n / unit % 2 = 1) (hu0 : ¬ unit = 0) (ho2 : 0 ≤ o2) (ho3 : o2 ≤ 63) (ho : Hid (o = o2 + n % 2)) :
    Calls Tryd.prog 4 #[.int .i64 n] w (IsTrue w) := by
  go_enter Tryd.func4, Tryd.ntmps4
  go_wp2_with fail
  refine C1.out.mono ?_; rintro e w' ⟨rfl, rfl⟩
  go_wp2_with fail
  refine (C2.out : Calls _ _ _ _ _).mono ?_; rintro e w' ⟨rfl, rfl⟩
  go_wp2_with fail
  refine (C3.out : Calls _ _ _ _ _).mono ?_; rintro e w' ⟨rfl, rfl⟩
  go_wp2_with fail
  refine (C4.out : Calls _ _ _ _ _).mono ?_; rintro e w' ⟨rfl, rfl⟩
  go_wp2_with fail
  refine (C5.out : Calls _ _ _ _ _).mono ?_; rintro e w' ⟨rfl, rfl⟩
  go_wp2_with fail
  refine (C6.out : Calls _ _ _ _ _).mono ?_; rintro e w' ⟨rfl, rfl⟩
  go_wp2_with fail
  refine (C7.out : Calls _ _ _ _ _).mono ?_; rintro e w' ⟨rfl, rfl⟩
  go_wp2_with fail
  refine (C8.out : Calls _ _ _ _ _).mono ?_; rintro e w' ⟨rfl, rfl⟩
  go_wp2_with fail
  refine (C9.out : Calls _ _ _ _ _).mono ?_; rintro e w' ⟨rfl, rfl⟩
  have hO := ho.out
  subst hO
  go_wp2_with fail
  go_ret
  exact ⟨by simp, rfl⟩
theorem pow62 {k : Nat} (h : k ≤ 62) : wrap64 ((2 : Int) ^ k) = ((2 ^ k : Nat) : Int) := by
  have hp : (2 : Int) ^ k = ((2 ^ k : Nat) : Int) := by simp
  have hp2 : 2 ^ k ≤ 2 ^ 62 := Nat.pow_le_pow_right (by decide) h
  have hwP : ∀ P : Nat, P ≤ 2 ^ 62 → wrap64 (P : Int) = P := fun P h => wrap_in (by omega) (by omega)
  rw [hp]; exact hwP _ hp2
theorem ctz_pow (k : Nat) : ctz (2 ^ k) = k := by
  induction k with
  | zero => exact ctz_odd rfl
  | succ k ih =>
    have := Nat.pow_pos (n := k) (show 0 < 2 by decide)
    rw [ctz_even (by rw [Nat.pow_succ]; omega) (by rw [Nat.pow_succ]; omega), show 2 ^ (k + 1) / 2 = 2 ^ k by rw [Nat.pow_succ]; omega, ih]
theorem popc_pow (k : Nat) : popc (2 ^ k) = 1 := by
  induction k with
  | zero => rw [popc_step]; exact congrArg (1 + ·) popc_zero
  | succ k ih =>
    rw [popc_step, show 2 ^ (k + 1) / 2 = 2 ^ k by rw [Nat.pow_succ]; omega, ih, Nat.pow_succ]; omega
theorem walk (n : Int) (w : World) (wn : (Lit.int .i64 n).wf = true) (HT : ∀ i : Nat, i < 16 → w.cell? ⟨0, i, none⟩ = some (.int .i64 (halves.getD i 0))) :
    Calls Tryd.prog 4 #[.int .i64 n] w fun e w' => e = .returned (.bool true) ∧ Below w.heap.size w w' := by
  obtain ⟨n0, n1⟩ := wf_i64 wn
  suffices h : Calls Tryd.prog 4 #[.int .i64 n] w (IsTrue w) from h.mono fun _ _ ⟨he, hw⟩ => ⟨he, hw ▸ Below.refl _ _⟩
  by_cases hs : n < 2
  · exact small n w hs n0
  · obtain ⟨N, rfl⟩ := Int.eq_ofNat_of_zero_le (show 0 ≤ n by omega)
    have hN : N < 9223372036854775808 := by omega
    have hT : Aside0 (Table w) := ⟨HT⟩
    have c1 := below_yes (N : Int) n1 w (by omega)
    rw [Int.toNat_natCast] at c1
    have hb0 : N - 1 ≠ 0 := by omega
    have hk1 := nbits_le hb0
    have hk2 := nbits_lt (N - 1)
    have hk3 := nbits_le_of_lt 63 (N - 1) (by omega)
    have hk4 := nbits_pos hb0
    obtain ⟨j, hj⟩ : ∃ j, nbits (N - 1) = j + 1 := ⟨nbits (N - 1) - 1, by omega⟩
    rw [hj, Nat.pow_succ] at hk2
    rw [hj, Nat.add_sub_cancel] at hk1
    rw [hj, Nat.add_sub_cancel] at c1
    have hjle : j ≤ 62 := by omega
    have hP := Nat.pow_pos (n := j) (show 0 < 2 by decide)
    have c2 : One 9 (pow2 j) 1 w := by
      have := ones_any (pow2 j) (by unfold pow2; omega) w hT
      unfold pow2 at *
      rw [Int.toNat_natCast, popc_pow] at this
      exact this
    have c7 : One 11 (pow2 j) j w := by
      have := zeros_nat (2 ^ j) w (by omega) hP
      rw [ctz_pow] at this
      exact this
    have c3 := Nums.bits_nat N w hN
    have c4 := zeros_nat N w hN (by omega)
    have c5 := ceil_any (N : Int) n0 n1 w
    have c6 := bits_any ((N : Int) - 1) (by omega) w
    rw [Int.toNat_natCast] at c5
    rw [show ((N : Int) - 1).toNat = N - 1 by omega] at c6
    have c8 := ones_nat N w hN hT
    have c9 := ones_nat (N / 2) w (by omega) hT
    have b0 : N ≠ 0 := by omega
    have b1 := nbits_le b0
    have b2 := nbits_lt N
    have b3 := nbits_le_of_lt 63 N (by omega)
    have b4 := nbits_pos b0
    obtain ⟨q, hq, hq2⟩ := ctz_spec N b0
    have hz := ctz_lt 63 N b0 (by omega)
    have hU := Nat.pow_pos (n := ctz N) (show 0 < 2 by decide)
    have hT2 := Nat.pow_pos (n := nbits N - 1) (show 0 < 2 by decide)
    have hdiv : N / 2 ^ ctz N = q := by
      have : 2 ^ ctz N * q / 2 ^ ctz N = q := Nat.mul_div_cancel_left q hU
      rw [← hq] at this; exact this
    have hmod : N % 2 ^ ctz N = 0 := by
      have : 2 ^ ctz N * q % 2 ^ ctz N = 0 := Nat.mul_mod_right _ _
      rw [← hq] at this; exact this
    have htop : N < 2 * 2 ^ (nbits N - 1) := by
      have : nbits N = nbits N - 1 + 1 := by omega
      rw [this, Nat.pow_succ] at b2; omega
    have hdi : ((N : Int) / ((2 ^ ctz N : Nat) : Int)) = (q : Int) := by rw [← Int.natCast_ediv, hdiv]
    have hmo : ((N : Int) % ((2 ^ ctz N : Nat) : Int)) = 0 := by rw [← Int.natCast_emod, hmod]; rfl
    have hst := popc_step N
    have h63 := popc_le 63 (N / 2) (by omega)
    have e2 : ((N : Int) / 2) = ((N / 2 : Nat) : Int) := by omega
    refine great (N : Int) (pow2 j) ((2 ^ (nbits N - 1) : Nat) : Int) ((2 ^ ctz N : Nat) : Int) (popc N) (popc (N / 2)) (nbits N) (ctz N) (nbits (N - 1)) j w (by omega) n1
      (Lib.hid c1) (Lib.hid c2) (Lib.hid c3) (Lib.hid c4) (Lib.hid c5) (Lib.hid c6) (Lib.hid c7) (Lib.hid c8) (Lib.hid (by rw [e2]; exact c9))
      (by unfold pow2; omega) (by unfold pow2; omega) (by unfold pow2; omega) (by omega) (by omega) (by omega) hjle (pow62 (by omega)) (pow62 (by omega)) (pow62 hjle) (by omega) (by omega)
      (by omega) (by omega) (by rw [hdi]; omega) (by rw [hmo]; rfl) (by rw [hdi]; omega) (by omega) (by omega) (by omega) (Lib.hid (by omega))
end Go.Proofs.YthmcibahdbglnaaDoor.Shape
