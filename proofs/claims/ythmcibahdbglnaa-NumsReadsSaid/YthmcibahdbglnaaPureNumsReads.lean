/- NumsReads: BE and Var read what the document says at every place of all bytes; no condition. -/
import Derived.Test.YthmcibahdbglnaaPNumsReadsx2
import Derived.Test.YthmcibahdbglnaaBase
set_option linter.unusedSimpArgs false
set_option linter.unusedVariables false
namespace Go.Proofs.Ythmcibahdbglnaa.Pure
open Go.RowKit Go.Proofs.Ythmcibahdbglnaa.PNumsReads Go.Proofs.YthmcibahdbglnaaW.PrintWords Go.Proofs.YthmcibahdbglnaaW.PrintLast Go.Proofs.YthmcibahdbglnaaW.PrintMore Go.Proofs.Ythmcibahdbglnaa.Base

/-! ### PutVar -/
/-- The digits of a number, seven bits each, the lowest first. -/
def leb (v : Nat) : List Int := if v < 128 then [(v : Int)] else ((v % 128 + 128 : Nat) : Int) :: leb (v / 128)
termination_by v
decreasing_by omega
theorem leb_small {v : Nat} (h : v < 128) : leb v = [(v : Int)] := by rw [leb, if_pos h]
theorem leb_big {v : Nat} (h : ¬ v < 128) : leb v = ((v % 128 + 128 : Nat) : Int) :: leb (v / 128) := by rw [leb, if_neg h]
theorem leb_byte (v : Nat) : ∀ x ∈ leb v, Byte x := by
  induction v using Nat.strongRecOn with
  | _ v ih =>
    intro x hx
    by_cases h : v < 128
    · rw [leb_small h] at hx
      simp only [List.mem_cons, List.not_mem_nil, or_false] at hx
      subst hx
      exact ⟨by omega, by omega⟩
    · rw [leb_big h] at hx
      simp only [List.mem_cons] at hx
      rcases hx with rfl | hx
      · exact ⟨by omega, by omega⟩
      · exact ih (v / 128) (by omega) x hx
theorem leb_length_pos (v : Nat) : 0 < (leb v).length := by rw [leb]; split <;> simp
theorem leb_length_le (n v : Nat) (h : v < 128 ^ (n + 1)) : (leb v).length ≤ n + 1 := by
  induction n generalizing v with
  | zero => rw [leb_small (by simpa using h)]; simp
  | succ n ih =>
    by_cases h1 : v < 128
    · rw [leb_small h1]; simp
    · rw [leb_big h1, List.length_cons]
      have := ih (v / 128) (by rw [Nat.div_lt_iff_lt_mul (by decide)]; rw [Nat.pow_succ] at h; exact h)
      omega
theorem leb_length_64 {v : Nat} (h : v < 18446744073709551616) : (leb v).length ≤ 10 := leb_length_le 9 v (by omega)

/-! ### bytes of a text from a place on -/
theorem bt_nb (s : ByteArray) (i : Nat) : bt s (i : Int) = (nb s).getD i 0 := by
  unfold bt
  rw [nb_getD]
  simp only [Int.toNat_natCast]
def sl (s : ByteArray) (at' n : Nat) : List Int := ((nb s).drop at').take n
theorem sl_length (s : ByteArray) (at' n : Nat) (h : at' + n ≤ s.size) : (sl s at' n).length = n := by
  simp only [sl, List.length_take, List.length_drop, nb_length]; omega
theorem sl_succ (s : ByteArray) (at' i : Nat) (h : at' + i < s.size) : sl s at' (i + 1) = sl s at' i ++ [(nb s).getD (at' + i) 0] := by
  have hl : i < ((nb s).drop at').length := by rw [List.length_drop, nb_length]; omega
  unfold sl
  rw [List.take_succ_eq_append_getElem hl, List.getElem_drop, List.getD_eq_getElem?_getD, List.getElem?_eq_getElem (by rw [nb_length]; exact h)]
  rfl
theorem sl_byte {s : ByteArray} {at' n : Nat} {x : Int} (h : x ∈ sl s at' n) : Byte x :=
  nb_byte (List.mem_of_mem_drop (List.mem_of_mem_take h))
theorem or_low (a b : Int) (h0 : 0 ≤ a) (h1 : a < 72057594037927936) (hb : Byte b) : Go.bits .or .u64 (a * 256) b = a * 256 + b := by
  obtain ⟨b0, b1⟩ := hb
  rw [u64_or _ _ (by omega) (by omega) b0 (by omega)]
  obtain ⟨m, rfl⟩ := Int.eq_ofNat_of_zero_le h0
  obtain ⟨n, rfl⟩ := Int.eq_ofNat_of_zero_le b0
  rw [show ((m : Int) * 256).toNat = m * 256 by omega, Int.toNat_natCast, nat_join 8 _ _ (by omega) (by omega)]
  omega
theorem pow_le_56 {i : Nat} (h : i < 8) : (256 : Int) ^ i ≤ 72057594037927936 := by
  have : i = 0 ∨ i = 1 ∨ i = 2 ∨ i = 3 ∨ i = 4 ∨ i = 5 ∨ i = 6 ∨ i = 7 := by omega
  rcases this with rfl | rfl | rfl | rfl | rfl | rfl | rfl | rfl <;> decide

/-! ### BE -/
theorem be_loop (s : ByteArray) (p n : Nat) (hn : n ≤ 8) (hin : p + n ≤ s.size) (hs : s.size ≤ 1000000000000000) : ∀ (d i k : Nat), i + d = n → d < k →
    nums_BE.l0 k s p (val 0 (sl s p i)) n i = some (val 0 (sl s p n), 0) := by
  intro d
  induction d with
  | zero =>
    intro i k hd hk
    obtain ⟨k, rfl⟩ : ∃ m, k = m + 1 := ⟨k - 1, by omega⟩
    obtain rfl : i = n := by omega
    simp only [nums_BE.l0]
    rw [if_neg (by omega)]
  | succ d ih =>
    intro i k hd hk
    obtain ⟨k, rfl⟩ : ∃ m, k = m + 1 := ⟨k - 1, by omega⟩
    have goon := ih (i + 1) k (by omega) (by omega)
    clear ih
    have hi : (i : Int) < n := by omega
    have e1 : wrap64 ((p : Int) + i) = ((p + i : Nat) : Int) := by rw [wrap_in (by omega) (by omega)]; omega
    have e2 : wrap64 ((i : Int) + 1) = ((i + 1 : Nat) : Int) := by rw [wrap_in (by omega) (by omega)]; omega
    have hb := nb_at_byte s (p + i)
    have hl := sl_length s p i (by omega)
    have hr := val_range (fun x hx => sl_byte (s := s) (at' := p) (n := i) hx)
    rw [hl] at hr
    have h56 := pow_le_56 (i := i) (by omega)
    have hs2 := sl_succ s p i (by omega)
    have c1 : (0 : Int) ≤ ((p + i : Nat) : Int) := by omega
    have c2 : ((p + i : Nat) : Int) < (s.size : Int) := by omega
    have h1 : val 0 (sl s p i) < 72057594037927936 := Int.lt_of_lt_of_le hr.2 h56
    rw [hs2, val_snoc] at goon
    generalize val 0 (sl s p i) = a at *
    have hbt := bt_nb s (p + i)
    generalize (nb s).getD (p + i) 0 = b at *
    have e3 : IntKind.u64.wrap (a * 256) = a * 256 := u64_in (by omega) (by omega)
    have e4 : IntKind.u64.wrap b = b := u64_in hb.1 (by have := hb.2; omega)
    simp only [nums_BE.l0]
    rw [if_pos hi, e1, if_pos c1, if_pos c2, hbt, e3, e4, or_low a b hr.1 h1 hb, e2]
    exact goon
theorem be_bad (s : ByteArray) (p n : Int) (hs : s.size ≤ 1000000000000000) (h : n < 1 ∨ 8 < n ∨ p < 0 ∨ (s.size : Int) < n ∨ (s.size : Int) - n < p) (k : Nat) : nums_BE.f (k + 1) s p n = some (0, 10) := by
  unfold nums_BE.f
  by_cases h1 : n < 1
  · rw [if_pos h1]; rfl
  · rw [if_neg h1]
    by_cases h2 : n > 8
    · rw [if_pos h2]; rfl
    · rw [if_neg h2]
      by_cases h3 : p < 0
      · rw [if_pos h3]; rfl
      · rw [if_neg h3]
        by_cases h4 : n > s.size
        · rw [if_pos h4]; rfl
        · rw [if_neg h4, wrap_in (by omega) (by omega), decide_eq_true (by omega)]; rfl
theorem be_good (s : ByteArray) (p n : Nat) (hs : s.size ≤ 1000000000000000) (h1 : 1 ≤ n) (h2 : n ≤ 8) (h : p + n ≤ s.size) (k : Nat) (hk : 10 ≤ k) :
    nums_BE.f k s p n = some (val 0 (sl s p n), 0) := by
  obtain ⟨k, rfl⟩ : ∃ m, k = m + 1 := ⟨k - 1, by omega⟩
  unfold nums_BE.f
  rw [if_neg (by omega), if_neg (by omega), if_neg (by omega), if_neg (by omega), wrap_in (by omega) (by omega), decide_eq_false (by omega)]
  simp only [nums_BE.j0]
  rw [if_neg (by decide)]
  exact be_loop s p n h2 h hs n 0 k (by omega) (by omega)

/-! ### the document's BE -/
theorem refBe_loop (s : ByteArray) (p n : Nat) (hn : n ≤ 8) (hin : p + n ≤ s.size) (hs : s.size ≤ 1000000000000000) : ∀ (d i k : Nat), i + d = n → d < k →
    annalsref1_BE.l0 k s p n (val 0 (sl s p i)) i = some (val 0 (sl s p n), 0) := by
  intro d
  induction d with
  | zero =>
    intro i k hd hk
    obtain ⟨k, rfl⟩ : ∃ m, k = m + 1 := ⟨k - 1, by omega⟩
    obtain rfl : i = n := by omega
    simp only [annalsref1_BE.l0]
    rw [if_neg (by omega)]
  | succ d ih =>
    intro i k hd hk
    obtain ⟨k, rfl⟩ : ∃ m, k = m + 1 := ⟨k - 1, by omega⟩
    have goon := ih (i + 1) k (by omega) (by omega)
    clear ih
    have hi : (i : Int) < n := by omega
    have e1 : wrap64 ((p : Int) + i) = ((p + i : Nat) : Int) := by rw [wrap_in (by omega) (by omega)]; omega
    have e2 : wrap64 ((i : Int) + 1) = ((i + 1 : Nat) : Int) := by rw [wrap_in (by omega) (by omega)]; omega
    have hb := nb_at_byte s (p + i)
    have hl := sl_length s p i (by omega)
    have hr := val_range (fun x hx => sl_byte (s := s) (at' := p) (n := i) hx)
    rw [hl] at hr
    have h56 := pow_le_56 (i := i) (by omega)
    have hs2 := sl_succ s p i (by omega)
    have c1 : (0 : Int) ≤ ((p + i : Nat) : Int) := by omega
    have c2 : ((p + i : Nat) : Int) < (s.size : Int) := by omega
    have h1 : val 0 (sl s p i) < 72057594037927936 := Int.lt_of_lt_of_le hr.2 h56
    rw [hs2, val_snoc] at goon
    generalize val 0 (sl s p i) = a at *
    have hbt := bt_nb s (p + i)
    generalize (nb s).getD (p + i) 0 = b at *
    have e3 : IntKind.u64.wrap (a * 256) = a * 256 := u64_in (by omega) (by omega)
    have e5 : IntKind.u64.wrap (a * 256 + b) = a * 256 + b := u64_in (by have := hb.1; omega) (by have := hb.2; omega)
    have e4 : IntKind.u64.wrap b = b := u64_in hb.1 (by have := hb.2; omega)
    simp only [annalsref1_BE.l0]
    rw [if_pos hi, e1, if_pos c1, if_pos c2, hbt, e3, e4, e5, e2]
    exact goon
theorem refBe_bad (s : ByteArray) (p n : Int) (hs : s.size ≤ 1000000000000000) (h : n < 1 ∨ 8 < n ∨ p < 0 ∨ (s.size : Int) < n ∨ (s.size : Int) - n < p) (k : Nat) : annalsref1_BE.f (k + 1) s p n = some (0, 10) := by
  unfold annalsref1_BE.f
  by_cases h1 : n < 1
  · rw [if_pos h1]; rfl
  · rw [if_neg h1]
    by_cases h2 : n > 8
    · rw [if_pos h2]; rfl
    · rw [if_neg h2]
      by_cases h3 : p < 0
      · rw [if_pos h3]; rfl
      · rw [if_neg h3]
        by_cases h4 : (s.size : Int) < n
        · rw [if_pos h4]; rfl
        · rw [if_neg h4, wrap_in (by omega) (by omega), decide_eq_true (by omega)]; rfl
theorem refBe_good (s : ByteArray) (p n : Nat) (hs : s.size ≤ 1000000000000000) (h1 : 1 ≤ n) (h2 : n ≤ 8) (h : p + n ≤ s.size) (k : Nat) (hk : 10 ≤ k) :
    annalsref1_BE.f k s p n = some (val 0 (sl s p n), 0) := by
  obtain ⟨k, rfl⟩ : ∃ m, k = m + 1 := ⟨k - 1, by omega⟩
  unfold annalsref1_BE.f
  rw [if_neg (by omega), if_neg (by omega), if_neg (by omega), if_neg (by omega), wrap_in (by omega) (by omega), decide_eq_false (by omega)]
  simp only [annalsref1_BE.j0]
  rw [if_neg (by decide)]
  exact refBe_loop s p n h2 h hs n 0 k (by omega) (by omega)

/-! ### Var on a list of bytes -/
def rv (p : Int) : Nat → Int → List Int → Int × Int × Int
  | 0, _, _ => (0, 0, 11)
  | _ + 1, _, [] => (0, 0, 12)
  | d + 1, acc, c :: xs =>
    if d = 0 ∧ c > 1 then (0, 0, 11)
    else if d < 9 ∧ c = 0 then (0, 0, 13)
    else if c < 128 then (acc + c % 128 * 128 ^ (9 - d), p + ((9 - d : Nat) : Int) + 1, 0)
    else rv p d (acc + c % 128 * 128 ^ (9 - d)) xs
theorem pow_le_63 {i : Nat} (h : i < 9) : (128 : Int) ^ i ≤ 72057594037927936 := by
  have : i = 0 ∨ i = 1 ∨ i = 2 ∨ i = 3 ∨ i = 4 ∨ i = 5 ∨ i = 6 ∨ i = 7 ∨ i = 8 := by omega
  rcases this with rfl | rfl | rfl | rfl | rfl | rfl | rfl | rfl | rfl <;> decide
/-- What is added stays below 2^64. -/
theorem part_range (i : Nat) (hi : i ≤ 9) (c : Int) (hc : Byte c) (h9 : i = 9 → c ≤ 1) (acc : Int) (h0 : 0 ≤ acc) (h1 : acc < 128 ^ i) :
    0 ≤ c % 128 * 128 ^ i ∧ acc + c % 128 * 128 ^ i < 18446744073709551616 ∧ (i < 9 → acc + c % 128 * 128 ^ i < 128 ^ (i + 1)) := by
  obtain ⟨c0, c1⟩ := hc
  have hp : (0 : Int) < 128 ^ i := Int.pow_pos (by decide)
  have m0 : 0 ≤ c % 128 := by omega
  have m1 : c % 128 ≤ 127 := by omega
  have hm := Int.mul_nonneg m0 (Int.le_of_lt hp)
  by_cases h : i = 9
  · subst h
    have := h9 rfl
    have e : (128 : Int) ^ 9 = 9223372036854775808 := by decide
    rw [e] at *
    exact ⟨by omega, by omega, fun h => by omega⟩
  · have hle := pow_le_63 (i := i) (by omega)
    have hm2 := Int.mul_le_mul_of_nonneg_right m1 (Int.le_of_lt hp)
    rw [Int.pow_succ]
    exact ⟨hm, by omega, fun _ => by omega⟩
theorem shl7 (i : Nat) (hi : i ≤ 9) (c : Int) (hc : Byte c) (h9 : i = 9 → c ≤ 1) : shl .u64 (c % 128) (7 * (i : Int)) = c % 128 * 128 ^ i := by
  have hr := part_range i hi c hc h9 0 (Int.le_refl _) (Int.pow_pos (by decide))
  unfold shl
  have e : min (7 * (i : Int)).toNat IntKind.u64.bits = 7 * i := by
    have : IntKind.u64.bits = 64 := rfl
    omega
  rw [e, Int.pow_mul, show (2 : Int) ^ 7 = 128 from rfl]
  exact u64_in hr.1 (by have := hr.2.1; rwa [Int.zero_add] at this)
theorem and127 (c : Int) (hc : Byte c) : Go.bits .and .u8 c 127 = c % 128 := by
  obtain ⟨c0, c1⟩ := hc
  obtain ⟨n, rfl⟩ := Int.eq_ofNat_of_zero_le c0
  have := u8_and_nat n 127 (by omega) (by decide)
  rw [show ((127 : Nat) : Int) = 127 from rfl] at this
  rw [this, nat_mask7]
  omega
theorem or_high (i : Nat) (hi : i ≤ 9) (c : Int) (hc : Byte c) (h9 : i = 9 → c ≤ 1) (acc : Int) (h0 : 0 ≤ acc) (h1 : acc < 128 ^ i) :
    Go.bits .or .u64 acc (c % 128 * 128 ^ i) = acc + c % 128 * 128 ^ i := by
  have hr := part_range i hi c hc h9 acc h0 h1
  obtain ⟨m, hm⟩ := Int.eq_ofNat_of_zero_le (show 0 ≤ c % 128 by have := hc.1; omega)
  rw [hm] at hr ⊢
  clear hm
  obtain ⟨a, rfl⟩ := Int.eq_ofNat_of_zero_le h0
  have e : ((m : Int) * 128 ^ i) = ((m * 128 ^ i : Nat) : Int) := by simp
  have e2 : (128 : Int) ^ i = ((128 ^ i : Nat) : Int) := by simp
  rw [e2] at h1
  rw [e] at hr ⊢
  clear e e2
  have h3 : a < 128 ^ i := by omega
  rw [u64_or _ _ h0 (by omega) (by omega) (by omega), Int.toNat_natCast, Int.toNat_natCast, Nat.or_comm,
    nat_join (7 * i) _ _ (by rw [Nat.pow_mul]; exact Nat.mul_mod_left _ _) (by rw [Nat.pow_mul]; exact h3)]
  omega
theorem rv_leb (p : Int) (rest : List Int) : ∀ (d : Nat) (acc : Int) (u : Nat), 1 ≤ d → d ≤ 10 → (d < 10 → u ≠ 0) → u * 128 ^ (10 - d) < 18446744073709551616 →
    rv p d acc (leb u ++ rest) = (acc + (u : Int) * 128 ^ (10 - d), p + ((10 - d + (leb u).length : Nat) : Int), 0) := by
  intro d
  induction d with
  | zero => intro _ _ h; omega
  | succ d ih =>
    intro acc u _ hd hu hr
    rw [show 10 - (d + 1) = 9 - d by omega] at *
    have h9 : d = 0 → u ≤ 1 := fun h => by subst h; omega
    by_cases hs : u < 128
    · rw [leb_small hs, List.singleton_append]
      simp only [rv]
      rw [if_neg (by omega), if_neg (by omega), if_pos (by omega), show (u : Int) % 128 = u by omega]
      congr 2
      simp only [List.length_cons, List.length_nil]
      omega
    · have hd0 : d ≠ 0 := fun h => by have := h9 h; omega
      rw [leb_big hs, List.cons_append]
      simp only [rv]
      rw [if_neg (by omega), if_neg (by omega), if_neg (by omega)]
      have e : ((u % 128 + 128 : Nat) : Int) % 128 = (u % 128 : Nat) := by omega
      have hpow : 128 ^ (10 - d) = 128 ^ (9 - d) * 128 := by rw [show 10 - d = (9 - d) + 1 by omega, Nat.pow_succ]
      have hmul : u / 128 * 128 ^ (10 - d) ≤ u * 128 ^ (9 - d) := by
        rw [hpow, Nat.mul_comm (128 ^ (9 - d)), ← Nat.mul_assoc]
        exact Nat.mul_le_mul_right _ (Nat.div_mul_le_self u 128)
      rw [e, ih _ (u / 128) (by omega) (by omega) (fun _ => by omega) (by omega)]
      have hpow' : (128 : Int) ^ (10 - d) = 128 ^ (9 - d) * 128 := by rw [show 10 - d = (9 - d) + 1 by omega, Int.pow_succ]
      rw [hpow']
      have hu' : (u : Int) = ((u % 128 : Nat) : Int) + 128 * ((u / 128 : Nat) : Int) := by omega
      refine Prod.ext ?_ (Prod.ext ?_ rfl)
      · show acc + ((u % 128 : Nat) : Int) * 128 ^ (9 - d) + ((u / 128 : Nat) : Int) * (128 ^ (9 - d) * 128) = acc + (u : Int) * 128 ^ (9 - d)
        generalize (128 : Int) ^ (9 - d) = P
        generalize ((u % 128 : Nat) : Int) = A at *
        generalize ((u / 128 : Nat) : Int) = B at *
        rw [hu']
        grind
      · show p + ((10 - d + (leb (u / 128)).length : Nat) : Int) = p + ((9 - d + (((u % 128 + 128 : Nat) : Int) :: leb (u / 128)).length : Nat) : Int)
        simp only [List.length_cons]
        omega

/-! ### Var -/
theorem var_loop (s : ByteArray) (p : Nat) (hs : s.size ≤ 1000000000000000) (hp : p ≤ s.size) : ∀ (d : Nat) (acc : Int) (k : Nat), d ≤ 10 → 0 ≤ acc → acc < 128 ^ (10 - d) → 4 * d + 1 ≤ k →
    nums_Var.l0 k s p acc ((10 - d : Nat) : Int) = some (rv p d acc ((nb s).drop (p + (10 - d)))) := by
  intro d
  induction d with
  | zero =>
    intro acc k _ _ _ hk
    obtain ⟨k, rfl⟩ : ∃ m, k = m + 1 := ⟨k - 1, by omega⟩
    simp only [nums_Var.l0]
    rw [if_neg (by omega)]
    rfl
  | succ d ih =>
    intro acc k hd h0 h1 hk
    obtain ⟨k, rfl⟩ : ∃ m, k = m + 3 := ⟨k - 3, by omega⟩
    have goon := fun acc => ih acc k (by omega)
    clear ih
    rw [show 10 - (d + 1) = 9 - d by omega] at *
    rw [show 10 - d = 9 - d + 1 by omega] at *
    have hi : 9 - d ≤ 9 := by omega
    have hdi : d = 9 - (9 - d) := by omega
    have hd9 : d < 9 ↔ 0 < 9 - d := by omega
    have hd0 : d = 0 ↔ 9 - d = 9 := by omega
    generalize 9 - d = i at *
    have e1 : Aside0 (wrap64 ((p : Int) + i) = ((p + i : Nat) : Int)) := ⟨by rw [wrap_in (by omega) (by omega)]; omega⟩
    have e2 : Aside0 (wrap64 ((i : Int) + 1) = ((i + 1 : Nat) : Int)) := ⟨by rw [wrap_in (by omega) (by omega)]; omega⟩
    have e3 : Aside0 (wrap64 (7 * (i : Int)) = 7 * i) := ⟨wrap_in (by omega) (by omega)⟩
    have e4 : Aside0 (wrap64 (((p + i : Nat) : Int) + 1) = ((p + i : Nat) : Int) + 1) := ⟨wrap_in (by omega) (by omega)⟩
    have c1 : (i : Int) < 10 := by omega
    have c2 : (0 : Int) ≤ ((p + i : Nat) : Int) := by omega
    have c4 : (0 : Int) ≤ 7 * (i : Int) := by omega
    have c5 : ((p + i : Nat) : Int) + 1 = (p : Int) + i + 1 := by omega
    by_cases hend : s.size ≤ p + i
    · rw [List.drop_of_length_le (by rw [nb_length]; omega)]
      simp only [nums_Var.l0]
      rw [if_pos c1, e1.out, if_pos (by omega)]
      rfl
    · have c3 : ((p + i : Nat) : Int) < (s.size : Int) := by omega
      have c6 : ¬ ((p + i : Nat) : Int) ≥ (s.size : Int) := by omega
      have hsplit : (nb s).drop (p + i) = (nb s).getD (p + i) 0 :: (nb s).drop (p + (i + 1)) := by
        rw [List.drop_eq_getElem_cons (by rw [nb_length]; omega), List.getD_eq_getElem?_getD, List.getElem?_eq_getElem (by rw [nb_length]; omega)]
        rfl
      have hb := nb_at_byte s (p + i)
      have hbt := bt_nb s (p + i)
      rw [hsplit]
      generalize (nb s).getD (p + i) 0 = c at *
      clear hsplit
      simp only [nums_Var.l0]
      rw [if_pos c1, e1.out, if_neg c6, if_pos c2, if_pos c3, hbt]
      by_cases q1 : i = 9 ∧ 1 < c
      · have hr : rv p (d + 1) acc (c :: (nb s).drop (p + (i + 1))) = (0, 0, 11) := by
          simp only [rv]; rw [if_pos ⟨hd0.2 q1.1, q1.2⟩]
        rw [hr, if_pos (by omega), decide_eq_true (show c > 1 from q1.2)]
        simp only [nums_Var.j2]
        rw [if_pos trivial]
      · have hj : (if (i : Int) = 9 then nums_Var.j2 (k + 2) s p acc i c i (decide (c > 1)) else nums_Var.j2 (k + 2) s p acc i c i false) = nums_Var.j2 (k + 2) s p acc i c i false := by
          by_cases h : (i : Int) = 9
          · rw [if_pos h, decide_eq_false (by omega)]
          · rw [if_neg h]
        rw [hj]
        clear hj
        have h9 : i = 9 → c ≤ 1 := fun h => by omega
        by_cases q2 : 0 < i ∧ c = 0
        · have hr : rv p (d + 1) acc (c :: (nb s).drop (p + (i + 1))) = (0, 0, 13) := by
            simp only [rv]; rw [if_neg (by omega), if_pos ⟨hd9.2 q2.1, q2.2⟩]
          rw [hr]
          simp only [nums_Var.j2]
          rw [if_neg (by decide), if_pos (by omega), q2.2]
          simp only [nums_Var.j3]
          rw [if_pos (by decide)]
        · have hj : nums_Var.j2 (k + 2) s p acc i c i false = nums_Var.j3 (k + 1) s p acc i c i false := by
            simp only [nums_Var.j2]
            rw [if_neg (by decide)]
            by_cases h : (i : Int) > 0
            · rw [if_pos h, beq_eq_false_iff_ne.2 (by omega)]
            · rw [if_neg h]
          rw [hj]
          clear hj
          have hr := part_range i hi c hb h9 acc h0 h1
          have eu : Aside0 (IntKind.u64.wrap (c % 128) = c % 128) := ⟨u64_in (by have := hb.1; omega) (by omega)⟩
          have hrv : rv p (d + 1) acc (c :: (nb s).drop (p + (i + 1))) = if c < 128 then (acc + c % 128 * 128 ^ i, (p : Int) + i + 1, 0) else rv p d (acc + c % 128 * 128 ^ i) ((nb s).drop (p + (i + 1))) := by
            simp only [rv]
            rw [if_neg (by omega), if_neg (by omega), show 9 - d = i by omega]
          have hgo : ¬ c < 128 → i < 9 := fun h => by
            rcases Nat.lt_or_ge i 9 with h' | h'
            · exact h'
            · have := h9 (by omega); omega
          rw [hrv]
          simp only [nums_Var.j3]
          rw [if_neg (by decide), e3.out, if_pos c4, and127 c hb, eu.out, shl7 i hi c hb h9, or_high i hi c hb h9 acc h0 h1, e1.out, e4.out, c5, e2.out]
          by_cases hc : c < 128
          · rw [if_pos hc, if_pos hc]
          · rw [if_neg hc, if_neg hc]
            have hlt := hr.2.2 (hgo hc)
            exact goon _ (Int.add_nonneg h0 hr.1) hlt (by omega)
theorem var_bad (s : ByteArray) (p : Int) (h : p < 0 ∨ (s.size : Int) < p) (k : Nat) : nums_Var.f (k + 1) s p = some (0, 0, 10) := by
  unfold nums_Var.f
  by_cases h1 : p < 0
  · rw [if_pos h1]; rfl
  · rw [if_neg h1, decide_eq_true (by omega)]; rfl
theorem var_good (s : ByteArray) (p : Nat) (hs : s.size ≤ 1000000000000000) (hp : p ≤ s.size) (k : Nat) (hk : 42 ≤ k) : nums_Var.f k s p = some (rv p 10 0 ((nb s).drop p)) := by
  obtain ⟨k, rfl⟩ : ∃ m, k = m + 1 := ⟨k - 1, by omega⟩
  unfold nums_Var.f
  rw [if_neg (by omega), decide_eq_false (by omega)]
  simp only [nums_Var.j0]
  rw [if_neg (by decide)]
  exact var_loop s p hs hp 10 0 k (by decide) (by decide) (by decide) (by omega)

/-! ### the document's Var -/
theorem refVar_loop (s : ByteArray) (p : Nat) (hs : s.size ≤ 1000000000000000) (hp : p ≤ s.size) : ∀ (d : Nat) (acc : Int) (k : Nat), d ≤ 10 → 0 ≤ acc → acc < 128 ^ (10 - d) → 4 * d + 1 ≤ k →
    annalsref1_Var.l0 k s p acc (128 ^ (10 - d)) ((10 - d : Nat) : Int) = some (rv p d acc ((nb s).drop (p + (10 - d)))) := by
  intro d
  induction d with
  | zero =>
    intro acc k _ _ _ hk
    obtain ⟨k, rfl⟩ : ∃ m, k = m + 1 := ⟨k - 1, by omega⟩
    simp only [annalsref1_Var.l0]
    rw [if_neg (by omega)]
    rfl
  | succ d ih =>
    intro acc k hd h0 h1 hk
    obtain ⟨k, rfl⟩ : ∃ m, k = m + 3 := ⟨k - 3, by omega⟩
    have goon := fun acc => ih acc k (by omega)
    clear ih
    rw [show 10 - (d + 1) = 9 - d by omega] at *
    rw [show 10 - d = 9 - d + 1 by omega] at *
    have hi : 9 - d ≤ 9 := by omega
    have hdi : d = 9 - (9 - d) := by omega
    have hd9 : d < 9 ↔ 0 < 9 - d := by omega
    have hd0 : d = 0 ↔ 9 - d = 9 := by omega
    generalize 9 - d = i at *
    have e1 : Aside0 (wrap64 ((p : Int) + i) = ((p + i : Nat) : Int)) := ⟨by rw [wrap_in (by omega) (by omega)]; omega⟩
    have e2 : Aside0 (wrap64 ((i : Int) + 1) = ((i + 1 : Nat) : Int)) := ⟨by rw [wrap_in (by omega) (by omega)]; omega⟩
    have e3 : Aside0 (wrap64 (7 * (i : Int)) = 7 * i) := ⟨wrap_in (by omega) (by omega)⟩
    have e4 : Aside0 (wrap64 (((p + i : Nat) : Int) + 1) = ((p + i : Nat) : Int) + 1) := ⟨wrap_in (by omega) (by omega)⟩
    have c1 : (i : Int) < 10 := by omega
    have c2 : (0 : Int) ≤ ((p + i : Nat) : Int) := by omega
    have c4 : (0 : Int) ≤ 7 * (i : Int) := by omega
    have c5 : ((p + i : Nat) : Int) + 1 = (p : Int) + i + 1 := by omega
    by_cases hend : s.size ≤ p + i
    · rw [List.drop_of_length_le (by rw [nb_length]; omega)]
      simp only [annalsref1_Var.l0]
      rw [if_pos c1, e1.out, if_pos (by omega)]
      rfl
    · have c3 : ((p + i : Nat) : Int) < (s.size : Int) := by omega
      have c6 : ¬ ((p + i : Nat) : Int) ≥ (s.size : Int) := by omega
      have hsplit : (nb s).drop (p + i) = (nb s).getD (p + i) 0 :: (nb s).drop (p + (i + 1)) := by
        rw [List.drop_eq_getElem_cons (by rw [nb_length]; omega), List.getD_eq_getElem?_getD, List.getElem?_eq_getElem (by rw [nb_length]; omega)]
        rfl
      have hb := nb_at_byte s (p + i)
      have hbt := bt_nb s (p + i)
      rw [hsplit]
      generalize (nb s).getD (p + i) 0 = c at *
      clear hsplit
      simp only [annalsref1_Var.l0]
      rw [if_pos c1, e1.out, if_neg c6, if_pos c2, if_pos c3, hbt]
      by_cases q1 : i = 9 ∧ 1 < c
      · have hr : rv p (d + 1) acc (c :: (nb s).drop (p + (i + 1))) = (0, 0, 11) := by
          simp only [rv]; rw [if_pos ⟨hd0.2 q1.1, q1.2⟩]
        rw [hr, if_pos (by omega), decide_eq_true (show c > 1 from q1.2)]
        simp only [annalsref1_Var.j2]
        rw [if_pos trivial]
      · have hj : (if (i : Int) = 9 then annalsref1_Var.j2 (k + 2) s p acc (128 ^ i) i c (decide (c > 1)) else annalsref1_Var.j2 (k + 2) s p acc (128 ^ i) i c false) = annalsref1_Var.j2 (k + 2) s p acc (128 ^ i) i c false := by
          by_cases h : (i : Int) = 9
          · rw [if_pos h, decide_eq_false (by omega)]
          · rw [if_neg h]
        rw [hj]
        clear hj
        have h9 : i = 9 → c ≤ 1 := fun h => by omega
        by_cases q2 : 0 < i ∧ c = 0
        · have hr : rv p (d + 1) acc (c :: (nb s).drop (p + (i + 1))) = (0, 0, 13) := by
            simp only [rv]; rw [if_neg (by omega), if_pos ⟨hd9.2 q2.1, q2.2⟩]
          rw [hr]
          simp only [annalsref1_Var.j2]
          rw [if_neg (by decide), if_pos (by omega), q2.2]
          simp only [annalsref1_Var.j3]
          rw [if_pos (by decide)]
        · have hj : annalsref1_Var.j2 (k + 2) s p acc (128 ^ i) i c false = annalsref1_Var.j3 (k + 1) s p acc (128 ^ i) i c false := by
            simp only [annalsref1_Var.j2]
            rw [if_neg (by decide)]
            by_cases h : (i : Int) > 0
            · rw [if_pos h, beq_eq_false_iff_ne.2 (by omega)]
            · rw [if_neg h]
          rw [hj]
          clear hj
          have hr := part_range i hi c hb h9 acc h0 h1
          have eu : Aside0 (IntKind.u64.wrap (c % 128) = c % 128) := ⟨u64_in (by have := hb.1; omega) (by omega)⟩
          have hrv : rv p (d + 1) acc (c :: (nb s).drop (p + (i + 1))) = if c < 128 then (acc + c % 128 * 128 ^ i, (p : Int) + i + 1, 0) else rv p d (acc + c % 128 * 128 ^ i) ((nb s).drop (p + (i + 1))) := by
            simp only [rv]
            rw [if_neg (by omega), if_neg (by omega), show 9 - d = i by omega]
          have hgo : ¬ c < 128 → i < 9 := fun h => by
            rcases Nat.lt_or_ge i 9 with h' | h'
            · exact h'
            · have := h9 (by omega); omega
          have em : Int.tmod c 128 = c % 128 := Int.tmod_eq_emod_of_nonneg hb.1
          have ep : Aside0 (IntKind.u64.wrap (c % 128 * 128 ^ i) = c % 128 * 128 ^ i) := ⟨u64_in hr.1 (by have := hr.2.1; omega)⟩
          have es : Aside0 (IntKind.u64.wrap (acc + c % 128 * 128 ^ i) = acc + c % 128 * 128 ^ i) := ⟨u64_in (Int.add_nonneg h0 hr.1) hr.2.1⟩
          rw [hrv]
          simp only [annalsref1_Var.j3]
          rw [if_neg (by decide), em, eu.out, ep.out, es.out, e1.out, e4.out, c5, e2.out]
          by_cases hc : c < 128
          · rw [if_pos hc, if_pos hc]
          · rw [if_neg hc, if_neg hc]
            have hlt := hr.2.2 (hgo hc)
            have hi9 := hgo hc
            have eq : IntKind.u64.wrap (128 ^ i * 128) = 128 ^ (i + 1) := by
              have := pow_le_63 hi9
              have hp : (0 : Int) < 128 ^ i := Int.pow_pos (by decide)
              rw [Int.pow_succ]
              exact u64_in (by omega) (by omega)
            rw [eq]
            exact goon _ (Int.add_nonneg h0 hr.1) hlt (by omega)
theorem refVar_bad (s : ByteArray) (p : Int) (h : p < 0 ∨ (s.size : Int) < p) (k : Nat) : annalsref1_Var.f (k + 1) s p = some (0, 0, 10) := by
  unfold annalsref1_Var.f
  by_cases h1 : p < 0
  · rw [if_pos h1]; rfl
  · rw [if_neg h1, decide_eq_true (by omega)]; rfl
theorem refVar_good (s : ByteArray) (p : Nat) (hs : s.size ≤ 1000000000000000) (hp : p ≤ s.size) (k : Nat) (hk : 42 ≤ k) : annalsref1_Var.f k s p = some (rv p 10 0 ((nb s).drop p)) := by
  obtain ⟨k, rfl⟩ : ∃ m, k = m + 1 := ⟨k - 1, by omega⟩
  unfold annalsref1_Var.f
  rw [if_neg (by omega), decide_eq_false (by omega)]
  simp only [annalsref1_Var.j0]
  rw [if_neg (by decide)]
  exact refVar_loop s p hs hp 10 0 k (by decide) (by decide) (by decide) (by omega)

theorem NumsReads : annalslaw1_NumsReads.Pure := by
  intro b p n hb wp wn
  have hp := wf_i64 wp
  refine ⟨60, ?_⟩
  have h1 : nums_BE.f 60 b p n = annalsref1_BE.f 60 b p n ∧ ∃ r, nums_BE.f 60 b p n = some r := by
    by_cases h : n < 1 ∨ 8 < n ∨ p < 0 ∨ (b.size : Int) < n ∨ (b.size : Int) - n < p
    · rw [be_bad b p n (by omega) h, refBe_bad b p n (by omega) h]; exact ⟨rfl, _, rfl⟩
    · obtain ⟨p, rfl⟩ := Int.eq_ofNat_of_zero_le (show 0 ≤ p by omega)
      obtain ⟨n, rfl⟩ := Int.eq_ofNat_of_zero_le (show 0 ≤ n by omega)
      rw [be_good b p n (by omega) (by omega) (by omega) (by omega) 60 (by omega), refBe_good b p n (by omega) (by omega) (by omega) (by omega) 60 (by omega)]
      exact ⟨rfl, _, rfl⟩
  have h2 : nums_Var.f 60 b p = annalsref1_Var.f 60 b p ∧ ∃ r, nums_Var.f 60 b p = some r := by
    by_cases h : p < 0 ∨ (b.size : Int) < p
    · rw [var_bad b p h, refVar_bad b p h]; exact ⟨rfl, _, rfl⟩
    · obtain ⟨p, rfl⟩ := Int.eq_ofNat_of_zero_le (show 0 ≤ p by omega)
      rw [var_good b p (by omega) (by omega) 60 (by omega), refVar_good b p (by omega) (by omega) 60 (by omega)]
      exact ⟨rfl, _, rfl⟩
  obtain ⟨e1, r, h1⟩ := h1
  obtain ⟨e2, s, h2⟩ := h2
  unfold annalslaw1_NumsReads.f
  rw [← e1, ← e2, h1, h2]
  simp

end Go.Proofs.Ythmcibahdbglnaa.Pure
