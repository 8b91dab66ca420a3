/- NumsPuts: PutBE and PutVar write what the document says, for every number and size; no condition. -/
import Derived.Test.YthmcibahdbglnaaPNumsPutsx1
import Derived.Test.YthmcibahdbglnaaBase
set_option linter.unusedSimpArgs false
set_option linter.unusedVariables false
namespace Go.Proofs.Ythmcibahdbglnaa.Pure
open Go.RowKit Go.Proofs.Ythmcibahdbglnaa.PNumsPuts Go.Proofs.YthmcibahdbglnaaW.PrintWords Go.Proofs.YthmcibahdbglnaaW.PrintLast Go.Proofs.YthmcibahdbglnaaW.PrintMore Go.Proofs.Ythmcibahdbglnaa.Base

/-! ### PutBE -/
theorem set_mid (d : Nat) (ys : List Int) (x : Int) : (List.replicate (d + 1) (0 : Int) ++ ys).set d x = List.replicate d 0 ++ x :: ys := by
  rw [List.replicate_succ', List.append_assoc, List.set_append_right _ _ (by simp)]
  simp
theorem shr8 (v : Int) (i : Nat) (hi : i < 8) : shr .u64 v (8 * (i : Int)) = v / 256 ^ i := by
  unfold shr
  have e : min (8 * (i : Int)).toNat IntKind.u64.bits = 8 * i := by
    have : IntKind.u64.bits = 64 := rfl
    omega
  rw [e, Int.pow_mul]
  rfl
theorem putBE_loop (v : Int) (size : Nat) (hs : size ≤ 8) : ∀ (d i k : Nat), i + d = size → d < k →
    nums_PutBE.l0 k v size (List.replicate d 0 ++ be v i) size i = some (strOfNums (be v size), 0) := by
  intro d
  induction d with
  | zero =>
    intro i k hd hk
    obtain ⟨k, rfl⟩ : ∃ m, k = m + 1 := ⟨k - 1, by omega⟩
    obtain rfl : i = size := by omega
    simp only [nums_PutBE.l0]
    rw [if_neg (by omega)]
    simp
  | succ d ih =>
    intro i k hd hk
    obtain ⟨k, rfl⟩ : ∃ m, k = m + 1 := ⟨k - 1, by omega⟩
    have e1 : wrap64 (8 * (i : Int)) = 8 * i := wrap_in (by omega) (by omega)
    have e2 : wrap64 ((size : Int) - 1) = size - 1 := wrap_in (by omega) (by omega)
    have e3 : wrap64 ((size : Int) - 1 - i) = d := by rw [wrap_in (by omega) (by omega)]; omega
    have e4 : wrap64 ((i : Int) + 1) = ((i + 1 : Nat) : Int) := by rw [wrap_in (by omega) (by omega)]; omega
    have e5 : (List.replicate (d + 1) (0 : Int) ++ be v i).length = size := by simp [be_length]; omega
    simp only [nums_PutBE.l0]
    rw [if_pos (by omega), e1, e2, e3, if_pos (by omega), if_pos (by omega), e5, if_pos (by omega), e4, shr8 v i (by omega), Int.toNat_natCast, set_mid]
    exact ih (i + 1) k (by omega) (by omega)
theorem putBE_bad (v size : Int) (h : size < 1 ∨ 8 < size) (k : Nat) : nums_PutBE.f (k + 1) v size = some ((⟨#[]⟩ : ByteArray), 10) := by
  unfold nums_PutBE.f
  rcases h with h | h
  · rw [if_pos h]; rfl
  · rw [if_neg (by omega), decide_eq_true h]; rfl
theorem shl_one (size : Nat) (h1 : 1 ≤ size) (h2 : size < 8) : IntKind.u64.wrap (shl .u64 1 (8 * (size : Int)) - 1) = 256 ^ size - 1 := by
  have : size = 1 ∨ size = 2 ∨ size = 3 ∨ size = 4 ∨ size = 5 ∨ size = 6 ∨ size = 7 := by omega
  rcases this with rfl | rfl | rfl | rfl | rfl | rfl | rfl <;> decide +kernel
theorem putBE_over (v : Int) (size : Nat) (h1 : 1 ≤ size) (h2 : size < 8) (hv : ¬ v < 256 ^ size) (k : Nat) :
    nums_PutBE.f (k + 2) v size = some ((⟨#[]⟩ : ByteArray), 11) := by
  unfold nums_PutBE.f
  rw [if_neg (by omega), decide_eq_false (by omega)]
  simp only [nums_PutBE.j0, nums_fits_uint64.f]
  rw [if_neg (by decide), if_pos (by omega), wrap_in (x := 8 * (size : Int)) (by omega) (by omega), if_pos (by omega), shl_one size h1 h2,
    decide_eq_false (show ¬ v ≤ 256 ^ size - 1 by omega)]
  simp [nums_PutBE.j1]
theorem putBE_fits (v : Int) (size : Nat) (h1 : 1 ≤ size) (h2 : size ≤ 8) (hv : v < 256 ^ size) (k : Nat) (hk : size + 3 ≤ k) :
    nums_PutBE.f k v size = some (strOfNums (be v size), 0) := by
  obtain ⟨k, rfl⟩ : ∃ m, k = m + 2 := ⟨k - 2, by omega⟩
  have hl := putBE_loop v size h2 size 0 k (by omega) (by omega)
  simp only [be, List.append_nil] at hl
  have hl' : nums_PutBE.l0 k v size (List.replicate size 0) size 0 = some (strOfNums (be v size), 0) := hl
  have hj : nums_PutBE.j1 (k + 1) v size false = some (strOfNums (be v size), 0) := by
    simp only [nums_PutBE.j1]
    rw [if_neg (by decide), if_pos (by omega), if_pos (by omega), Int.toNat_natCast]
    exact hl'
  unfold nums_PutBE.f
  rw [if_neg (by omega), decide_eq_false (by omega)]
  simp only [nums_PutBE.j0, nums_fits_uint64.f]
  rw [if_neg (by decide)]
  by_cases h8 : size = 8
  · rw [if_neg (by omega)]; exact hj
  · rw [if_pos (by omega), wrap_in (x := 8 * (size : Int)) (by omega) (by omega), if_pos (by omega), shl_one size h1 (by omega),
      decide_eq_true (show v ≤ 256 ^ size - 1 by omega)]
    exact hj

/-! ### the document's PutBE -/
theorem refPutBE_loop (size : Nat) (hs : size ≤ 8) (v : Int) (hv : 0 ≤ v ∧ v < 18446744073709551616) : ∀ (d i k : Nat), i + d = size → d < k →
    annalsref1_PutBE.l0 k (v / 256 ^ i) size (strOfNums (be v i)) i = if v / 256 ^ size = 0 then some (strOfNums (be v size), 0) else some ((⟨#[]⟩ : ByteArray), 11) := by
  intro d
  induction d with
  | zero =>
    intro i k hd hk
    obtain ⟨k, rfl⟩ : ∃ m, k = m + 1 := ⟨k - 1, by omega⟩
    obtain rfl : i = size := by omega
    simp only [annalsref1_PutBE.l0]
    rw [if_neg (by omega)]
  | succ d ih =>
    intro i k hd hk
    obtain ⟨k, rfl⟩ : ∃ m, k = m + 1 := ⟨k - 1, by omega⟩
    have e4 : wrap64 ((i : Int) + 1) = ((i + 1 : Nat) : Int) := by rw [wrap_in (by omega) (by omega)]; omega
    have e5 : ∀ x : Int, (strOfNums [x]).size + (strOfNums (be v i)).size ≤ 9223372036854775807 := fun x => by
      rw [son_size, son_size, be_length]
      simp only [List.length_cons, List.length_nil]
      omega
    have e6 : (i : Int) < size := by omega
    have goon := ih (i + 1) k (by omega) (by omega)
    clear ih
    have hp : (0 : Int) < 256 ^ i := Int.pow_pos (by decide)
    have hq : 0 ≤ v / 256 ^ i := Int.ediv_nonneg hv.1 (Int.le_of_lt hp)
    have h0 : 0 ≤ v / 256 ^ (i + 1) := Int.ediv_nonneg hv.1 (Int.le_of_lt (Int.pow_pos (by decide)))
    have h1 : v / 256 ^ (i + 1) ≤ v := Int.ediv_le_self _ hv.1
    have e3 : IntKind.u64.wrap (v / 256 ^ (i + 1)) = v / 256 ^ (i + 1) := u64_in h0 (Int.lt_of_le_of_lt h1 hv.2)
    have e1 : Int.tmod (v / 256 ^ i) 256 = v / 256 ^ i % 256 := Int.tmod_eq_emod_of_nonneg hq
    have e2 : Int.tdiv (v / 256 ^ i) 256 = v / 256 ^ (i + 1) := by
      rw [Int.tdiv_eq_ediv_of_nonneg hq, Int.ediv_ediv_of_nonneg (Int.le_of_lt hp), Int.pow_succ]
    simp only [annalsref1_PutBE.l0, Option.bind_some]
    rw [if_pos e6, e1, e2, e3, e4, Int.emod_emod_of_dvd _ (Int.dvd_refl 256), if_pos (e5 _), ← son_append]
    exact goon
theorem refPutBE_bad (v size : Int) (h : size < 1 ∨ 8 < size) (k : Nat) : annalsref1_PutBE.f (k + 1) v size = some ((⟨#[]⟩ : ByteArray), 10) := by
  unfold annalsref1_PutBE.f
  rcases h with h | h
  · rw [if_pos h]; rfl
  · rw [if_neg (by omega), decide_eq_true h]; rfl
theorem refPutBE_good (v : Int) (hv : 0 ≤ v ∧ v < 18446744073709551616) (size : Nat) (h1 : 1 ≤ size) (h2 : size ≤ 8) (k : Nat) (hk : size + 3 ≤ k) :
    annalsref1_PutBE.f k v size = if v / 256 ^ size = 0 then some (strOfNums (be v size), 0) else some ((⟨#[]⟩ : ByteArray), 11) := by
  obtain ⟨k, rfl⟩ : ∃ m, k = m + 1 := ⟨k - 1, by omega⟩
  unfold annalsref1_PutBE.f
  rw [if_neg (by omega), decide_eq_false (by omega)]
  simp only [annalsref1_PutBE.j0]
  rw [if_neg (by decide)]
  have := refPutBE_loop size h2 v hv size 0 k (by omega) (by omega)
  simpa [be, son_nil] using this

/-! ### PutVar -/
/-- The digits of a number, seven bits each, the lowest first. -/
def leb (v : Nat) : List Int := if v < 128 then [(v : Int)] else ((v % 128 + 128 : Nat) : Int) :: leb (v / 128)
termination_by v
decreasing_by omega
theorem leb_small {v : Nat} (h : v < 128) : leb v = [(v : Int)] := by rw [leb, if_pos h]
theorem leb_big {v : Nat} (h : ¬ v < 128) : leb v = ((v % 128 + 128 : Nat) : Int) :: leb (v / 128) := by rw [leb, if_neg h]
theorem leb_byte (v : Nat) : ∀ x ∈ leb v, Byte x := by
  induction v using Nat.strongRecOn with
  | _ v ih =>
    intro x hx
    by_cases h : v < 128
    · rw [leb_small h] at hx
      simp only [List.mem_cons, List.not_mem_nil, or_false] at hx
      subst hx
      exact ⟨by omega, by omega⟩
    · rw [leb_big h] at hx
      simp only [List.mem_cons] at hx
      rcases hx with rfl | hx
      · exact ⟨by omega, by omega⟩
      · exact ih (v / 128) (by omega) x hx
theorem leb_length_pos (v : Nat) : 0 < (leb v).length := by rw [leb]; split <;> simp
theorem leb_length_le (n v : Nat) (h : v < 128 ^ (n + 1)) : (leb v).length ≤ n + 1 := by
  induction n generalizing v with
  | zero => rw [leb_small (by simpa using h)]; simp
  | succ n ih =>
    by_cases h1 : v < 128
    · rw [leb_small h1]; simp
    · rw [leb_big h1, List.length_cons]
      have := ih (v / 128) (by rw [Nat.div_lt_iff_lt_mul (by decide)]; rw [Nat.pow_succ] at h; exact h)
      omega
theorem leb_length_64 {v : Nat} (h : v < 18446744073709551616) : (leb v).length ≤ 10 := leb_length_le 9 v (by omega)
theorem or128 (a : Nat) (h : a < 256) : Go.bits .or .u8 (a : Int) 128 = ((a % 128 + 128 : Nat) : Int) := by
  have := u8_or_nat a 128 h (by decide)
  rw [show ((128 : Nat) : Int) = 128 from rfl] at this
  rw [this]
  have : ∀ a, a < 256 → a ||| 128 = a % 128 + 128 := by decide +kernel
  rw [this a h]
theorem putVar_loop (n : Nat) : ∀ (v : Nat) (ys : List Int) (k : Nat), (leb v).length ≤ n → n ≤ k → ys.length + n ≤ 1000 →
    nums_PutVar.l0 k (v : Int) ys = some (strOfNums (ys ++ leb v)) := by
  induction n with
  | zero => intro v _ _ h; have := leb_length_pos v; omega
  | succ n ih =>
    intro v ys k h hk hy
    obtain ⟨k, rfl⟩ : ∃ m, k = m + 1 := ⟨k - 1, by omega⟩
    simp only [nums_PutVar.l0, nums_fits_uint64.f, Option.bind_some]
    by_cases hv : v < 128
    · rw [decide_eq_true (show (v : Int) ≤ 127 by omega), if_pos rfl, if_pos (by omega), leb_small hv]
      rw [show (v : Int) % 256 = v by omega]
    · rw [decide_eq_false (show ¬ (v : Int) ≤ 127 by omega), if_neg (by decide), if_pos (by omega)]
      rw [leb_big hv] at h ⊢
      have e : ((v : Int) % 256) = ((v % 256 : Nat) : Int) := by omega
      have e2 : ((v : Int) / 128) = ((v / 128 : Nat) : Int) := by omega
      rw [e, or128 _ (by omega), e2, ih (v / 128) _ k (by simpa using h) (by omega) (by simp; omega)]
      rw [show v % 256 % 128 = v % 128 by omega]
      simp
theorem putVar_is (v : Nat) (hv : v < 18446744073709551616) (k : Nat) (hk : 10 ≤ k) : nums_PutVar.f k (v : Int) = some (strOfNums (leb v)) := by
  unfold nums_PutVar.f
  have := putVar_loop 10 v [] k (leb_length_64 hv) hk (by simp)
  simpa using this

/-! ### the document's PutVar -/
theorem refPutVar_loop (n : Nat) : ∀ (v : Nat) (ys : List Int) (k : Nat), v < 18446744073709551616 → (leb v).length ≤ n → n ≤ k → ys.length + n ≤ 1000 →
    annalsref1_PutVar.l0 k (v : Int) (strOfNums ys) = some (strOfNums (ys ++ leb v)) := by
  induction n with
  | zero => intro v _ _ _ h; have := leb_length_pos v; omega
  | succ n ih =>
    intro v ys k h64 h hk hy
    obtain ⟨k, rfl⟩ : ∃ m, k = m + 1 := ⟨k - 1, by omega⟩
    simp only [annalsref1_PutVar.l0, Option.bind_some]
    by_cases hv : v < 128
    · rw [if_neg (by omega), if_pos (by simp only [son_size, List.length_cons, List.length_nil]; omega), leb_small hv, ← son_append]
      rw [show (v : Int) % 256 = v by omega]
    · rw [if_pos (by omega), if_pos (by simp only [son_size, List.length_cons, List.length_nil]; omega)]
      rw [leb_big hv] at h ⊢
      have e1 : (Int.tmod (v : Int) 128 % 256 + 128) % 256 = ((v % 128 + 128 : Nat) : Int) := by
        rw [Int.tmod_eq_emod_of_nonneg (by omega)]; omega
      have e2 : IntKind.u64.wrap (Int.tdiv (v : Int) 128) = ((v / 128 : Nat) : Int) := by
        rw [Int.tdiv_eq_ediv_of_nonneg (by omega), u64_in (by omega) (by omega)]; omega
      rw [e1, e2, ← son_append, ih (v / 128) _ k (by omega) (by simpa using h) (by omega) (by simp; omega)]
      simp
theorem refPutVar_is (v : Nat) (hv : v < 18446744073709551616) (k : Nat) (hk : 10 ≤ k) : annalsref1_PutVar.f k (v : Int) = some (strOfNums (leb v)) := by
  unfold annalsref1_PutVar.f
  have := refPutVar_loop 10 v [] k hv (leb_length_64 hv) hk (by simp)
  simpa [son_nil] using this

theorem NumsPuts : annalslaw1_NumsPuts.Pure := by
  intro v size wv ws
  have hv := wf_u64 wv
  obtain ⟨n, rfl⟩ := Int.eq_ofNat_of_zero_le hv.1
  refine ⟨20, ?_⟩
  have h3 := putVar_is n (by omega) 20 (by decide)
  have h4 := refPutVar_is n (by omega) 20 (by decide)
  have h12 : nums_PutBE.f 20 (n : Int) size = annalsref1_PutBE.f 20 (n : Int) size ∧ ∃ r, nums_PutBE.f 20 (n : Int) size = some r := by
    by_cases hs : size < 1 ∨ 8 < size
    · rw [putBE_bad _ _ hs, refPutBE_bad _ _ hs]; exact ⟨rfl, _, rfl⟩
    · obtain ⟨s, rfl⟩ := Int.eq_ofNat_of_zero_le (show 0 ≤ size by omega)
      rw [refPutBE_good _ hv s (by omega) (by omega) 20 (by omega)]
      have hp : (0 : Int) < 256 ^ s := Int.pow_pos (by decide)
      by_cases h : (n : Int) < 256 ^ s
      · rw [putBE_fits _ s (by omega) (by omega) h 20 (by omega), if_pos (Int.ediv_eq_zero_of_lt hv.1 h)]; exact ⟨rfl, _, rfl⟩
      · have h8 : s < 8 := by
          rcases Nat.lt_or_ge s 8 with h8 | h8
          · exact h8
          · obtain rfl : s = 8 := by omega
            exact absurd (show (n : Int) < 256 ^ 8 by omega) h
        rw [putBE_over _ s (by omega) h8 h, if_neg]
        · exact ⟨rfl, _, rfl⟩
        · have := Int.le_ediv_of_mul_le hp (show 1 * (256 : Int) ^ s ≤ n by omega)
          omega
  obtain ⟨h12, r, h1⟩ := h12
  unfold annalslaw1_NumsPuts.f
  rw [← h12, h1, h3, h4]
  simp

end Go.Proofs.Ythmcibahdbglnaa.Pure
