/- Check sums in plain numbers: a text's sum is 8 n steps from its number: no program in sight. -/
import Derived.Test.YtfmgpmefkjhncaaBase
namespace Go.Proofs.Ytfmgpmefkjhncaa.CrcPlain

/-! ### 1. One step -/
def stp (v : Nat) : Nat := if v % 2 = 1 then v / 2 ^^^ 3988292384 else v / 2
def stpN : Nat → Nat → Nat
  | 0, v => v
  | n + 1, v => stpN n (stp v)
theorem xor_mod (a b : Nat) : (a ^^^ b) % 2 = (a % 2 + b % 2) % 2 := by
  have h := Nat.xor_mod_two_pow (a := a) (b := b) (n := 1)
  rw [show (2 : Nat) ^ 1 = 2 from rfl] at h
  rw [h]
  rcases Nat.mod_two_eq_zero_or_one a with ha | ha <;> rcases Nat.mod_two_eq_zero_or_one b with hb | hb <;> rw [ha, hb] <;> rfl
theorem xor_div (a b : Nat) : (a ^^^ b) / 2 = a / 2 ^^^ b / 2 := by
  have := Nat.shiftRight_xor_distrib (a := a) (b := b) (i := 1)
  simpa [Nat.shiftRight_succ] using this
theorem stp_xor (a b : Nat) : stp (a ^^^ b) = stp a ^^^ stp b := by
  unfold stp
  rw [xor_mod, xor_div]
  rcases Nat.mod_two_eq_zero_or_one a with ha | ha <;> rcases Nat.mod_two_eq_zero_or_one b with hb | hb <;> rw [ha, hb] <;> simp
  · rw [Nat.xor_assoc]
  · rw [Nat.xor_assoc, Nat.xor_assoc, Nat.xor_comm (b / 2)]
  · rw [Nat.xor_assoc (a / 2), ← Nat.xor_assoc 3988292384, Nat.xor_comm 3988292384 (b / 2), Nat.xor_assoc (b / 2), Nat.xor_self, Nat.xor_zero]
theorem stp_two (a : Nat) : stp (2 * a) = a := by unfold stp; rw [if_neg (by omega)]; omega
theorem stp_zero : stp 0 = 0 := by decide
theorem xor_lt {a b k : Nat} (ha : a < 2 ^ k) (hb : b < 2 ^ k) : a ^^^ b < 2 ^ k := Nat.xor_lt_two_pow ha hb
theorem stp_lt {v : Nat} (h : v < 4294967296) : stp v < 4294967296 := by
  unfold stp
  split
  · exact xor_lt (k := 32) (by omega) (by decide)
  · omega
theorem stp_ne {v : Nat} (h0 : v ≠ 0) (h : v < 4294967296) : stp v ≠ 0 := by
  unfold stp
  split
  · intro e
    have : v / 2 = 3988292384 := by
      have h2 := congrArg (· ^^^ 3988292384) e
      simp only [Nat.zero_xor] at h2
      rw [Nat.xor_assoc, Nat.xor_self, Nat.xor_zero] at h2
      exact h2
    omega
  · omega
theorem stpN_xor (n a b : Nat) : stpN n (a ^^^ b) = stpN n a ^^^ stpN n b := by
  induction n generalizing a b with
  | zero => rfl
  | succ n ih => rw [stpN, stpN, stpN, stp_xor, ih]
theorem stpN_pow (n a : Nat) : stpN n (2 ^ n * a) = a := by
  induction n with
  | zero => simp [stpN]
  | succ n ih => rw [stpN, Nat.pow_succ, Nat.mul_comm (2 ^ n) 2, Nat.mul_assoc, stp_two, ih]
theorem stpN_add (m n v : Nat) : stpN (m + n) v = stpN n (stpN m v) := by
  induction m generalizing v with
  | zero => rw [Nat.zero_add]; rfl
  | succ m ih => rw [Nat.add_right_comm]; exact ih (stp v)
theorem stpN_zero (n : Nat) : stpN n 0 = 0 := by
  induction n with
  | zero => rfl
  | succ n ih => rw [stpN, stp_zero, ih]
theorem stpN_lt (n : Nat) {v : Nat} (h : v < 4294967296) : stpN n v < 4294967296 := by
  induction n generalizing v with
  | zero => exact h
  | succ n ih => exact ih (stp_lt h)
theorem stpN_ne (n : Nat) {v : Nat} (h0 : v ≠ 0) (h : v < 4294967296) : stpN n v ≠ 0 := by
  induction n generalizing v with
  | zero => exact h0
  | succ n ih => exact ih (stp_ne h0 h) (stp_lt h)

/-! ### 2. One byte -/
def upd (v c : Nat) : Nat := v / 256 ^^^ stpN 8 (v % 256 ^^^ c)
theorem join_xor (i q r : Nat) (h : r < 2 ^ i) : 2 ^ i * q ^^^ r = 2 ^ i * q + r := by
  apply Nat.eq_of_testBit_eq
  intro j
  rw [Nat.testBit_xor, Nat.mul_comm, Nat.testBit_mul_two_pow, Nat.mul_comm, Nat.testBit_two_pow_mul_add _ h]
  by_cases hj : j < i
  · simp [hj, show ¬ i ≤ j by omega]
  · simp [hj, show i ≤ j by omega, Nat.testBit_lt_two_pow (Nat.lt_of_lt_of_le h (Nat.pow_le_pow_right (by decide) (show i ≤ j by omega)))]
theorem upd_eq (v c : Nat) : upd v c = stpN 8 (v ^^^ c) := by
  have h := join_xor 8 (v / 256) (v % 256) (by omega)
  have e : v = 256 * (v / 256) ^^^ v % 256 := by
    rw [show (2 : Nat) ^ 8 = 256 from rfl] at h
    rw [h]; omega
  have : v ^^^ c = 2 ^ 8 * (v / 256) ^^^ (v % 256 ^^^ c) := by
    rw [← Nat.xor_assoc]
    exact congrArg (· ^^^ c) e
  rw [this, stpN_xor, stpN_pow]
  rfl
theorem upd_lt {v c : Nat} (hv : v < 4294967296) (hc : c < 256) : upd v c < 4294967296 := by
  rw [upd_eq]
  exact stpN_lt 8 (xor_lt (k := 32) hv (by omega))

/-! ### 3. A text -/
def num : List Nat → Nat
  | [] => 0
  | c :: l => c + 256 * num l
def run (v : Nat) (l : List Nat) : Nat := l.foldl upd v
theorem run_eq (v : Nat) (l : List Nat) (h : ∀ c ∈ l, c < 256) : run v l = stpN (8 * l.length) (v ^^^ num l) := by
  induction l generalizing v with
  | nil => simp [run, num, stpN]
  | cons c l ih =>
    have hl := ih (upd v c) fun x hx => h x (List.mem_cons_of_mem _ hx)
    have hc := h c List.mem_cons_self
    have e : num (c :: l) = 2 ^ 8 * num l ^^^ c := by rw [join_xor 8 _ _ hc]; simp [num]; omega
    show run (upd v c) l = _
    rw [hl, List.length_cons, show 8 * (l.length + 1) = 8 + 8 * l.length by omega, stpN_add, e]
    congr 1
    rw [Nat.xor_comm (2 ^ 8 * num l) c, ← Nat.xor_assoc, stpN_xor 8 (v ^^^ c), stpN_pow, upd_eq]
theorem run_append (v : Nat) (a b : List Nat) : run v (a ++ b) = run (run v a) b := by simp [run]
theorem run_lt {v : Nat} (hv : v < 4294967296) (l : List Nat) (h : ∀ c ∈ l, c < 256) : run v l < 4294967296 := by
  induction l generalizing v with
  | nil => exact hv
  | cons c l ih => exact ih (upd_lt hv (h c List.mem_cons_self)) fun x hx => h x (List.mem_cons_of_mem _ hx)
def inv (v : Nat) : Nat := v ^^^ 4294967295
theorem inv_inv (v : Nat) : inv (inv v) = v := by unfold inv; rw [Nat.xor_assoc, Nat.xor_self, Nat.xor_zero]
theorem inv_lt {v : Nat} (h : v < 4294967296) : inv v < 4294967296 := xor_lt (k := 32) h (by decide)
theorem inv_sub {v : Nat} (h : v < 4294967296) : inv v = 4294967295 - v := by
  unfold inv
  have := congrArg BitVec.toNat (BitVec.xor_allOnes (x := BitVec.ofNat 32 v))
  rw [BitVec.toNat_xor, BitVec.toNat_not, BitVec.toNat_allOnes, BitVec.toNat_ofNat, Nat.mod_eq_of_lt (show v < 2 ^ 32 by omega)] at this
  rw [show 4294967295 = 2 ^ 32 - 1 from rfl, this]
def crcOn (crc : Nat) (l : List Nat) : Nat := inv (run (inv crc) l)
theorem crcOn_lt {crc : Nat} (h : crc < 4294967296) (l : List Nat) (hl : ∀ c ∈ l, c < 256) : crcOn crc l < 4294967296 := inv_lt (run_lt (inv_lt h) l hl)
theorem crcOn_append (crc : Nat) (a b : List Nat) : crcOn (crcOn crc a) b = crcOn crc (a ++ b) := by
  unfold crcOn
  rw [inv_inv, run_append]
end Go.Proofs.Ytfmgpmefkjhncaa.CrcPlain
