/- NumsBytes: what BE reads PutBE writes; no condition. -/
import Derived.Test.YthmcibahdbglnaaPNumsBytesx1
import Derived.Test.YthmcibahdbglnaaBase
set_option linter.unusedSimpArgs false
set_option linter.unusedVariables false
namespace Go.Proofs.Ythmcibahdbglnaa.Pure
open Go.RowKit Go.Proofs.Ythmcibahdbglnaa.PNumsBytes Go.Proofs.YthmcibahdbglnaaW.PrintWords Go.Proofs.YthmcibahdbglnaaW.PrintLast Go.Proofs.YthmcibahdbglnaaW.PrintMore Go.Proofs.Ythmcibahdbglnaa.Base

/-! ### PutBE -/
theorem set_mid (d : Nat) (ys : List Int) (x : Int) : (List.replicate (d + 1) (0 : Int) ++ ys).set d x = List.replicate d 0 ++ x :: ys := by
  rw [List.replicate_succ', List.append_assoc, List.set_append_right _ _ (by simp)]
  simp
theorem shr8 (v : Int) (i : Nat) (hi : i < 8) : shr .u64 v (8 * (i : Int)) = v / 256 ^ i := by
  unfold shr
  have e : min (8 * (i : Int)).toNat IntKind.u64.bits = 8 * i := by
    have : IntKind.u64.bits = 64 := rfl
    omega
  rw [e, Int.pow_mul]
  rfl
theorem putBE_loop (v : Int) (size : Nat) (hs : size ≤ 8) : ∀ (d i k : Nat), i + d = size → d < k →
    nums_PutBE.l0 k v size (List.replicate d 0 ++ be v i) size i = some (strOfNums (be v size), 0) := by
  intro d
  induction d with
  | zero =>
    intro i k hd hk
    obtain ⟨k, rfl⟩ : ∃ m, k = m + 1 := ⟨k - 1, by omega⟩
    obtain rfl : i = size := by omega
    simp only [nums_PutBE.l0]
    rw [if_neg (by omega)]
    simp
  | succ d ih =>
    intro i k hd hk
    obtain ⟨k, rfl⟩ : ∃ m, k = m + 1 := ⟨k - 1, by omega⟩
    have e1 : wrap64 (8 * (i : Int)) = 8 * i := wrap_in (by omega) (by omega)
    have e2 : wrap64 ((size : Int) - 1) = size - 1 := wrap_in (by omega) (by omega)
    have e3 : wrap64 ((size : Int) - 1 - i) = d := by rw [wrap_in (by omega) (by omega)]; omega
    have e4 : wrap64 ((i : Int) + 1) = ((i + 1 : Nat) : Int) := by rw [wrap_in (by omega) (by omega)]; omega
    have e5 : (List.replicate (d + 1) (0 : Int) ++ be v i).length = size := by simp [be_length]; omega
    simp only [nums_PutBE.l0]
    rw [if_pos (by omega), e1, e2, e3, if_pos (by omega), if_pos (by omega), e5, if_pos (by omega), e4, shr8 v i (by omega), Int.toNat_natCast, set_mid]
    exact ih (i + 1) k (by omega) (by omega)
theorem putBE_bad (v size : Int) (h : size < 1 ∨ 8 < size) (k : Nat) : nums_PutBE.f (k + 1) v size = some ((⟨#[]⟩ : ByteArray), 10) := by
  unfold nums_PutBE.f
  rcases h with h | h
  · rw [if_pos h]; rfl
  · rw [if_neg (by omega), decide_eq_true h]; rfl
theorem shl_one (size : Nat) (h1 : 1 ≤ size) (h2 : size < 8) : IntKind.u64.wrap (shl .u64 1 (8 * (size : Int)) - 1) = 256 ^ size - 1 := by
  have : size = 1 ∨ size = 2 ∨ size = 3 ∨ size = 4 ∨ size = 5 ∨ size = 6 ∨ size = 7 := by omega
  rcases this with rfl | rfl | rfl | rfl | rfl | rfl | rfl <;> decide +kernel
theorem putBE_over (v : Int) (size : Nat) (h1 : 1 ≤ size) (h2 : size < 8) (hv : ¬ v < 256 ^ size) (k : Nat) :
    nums_PutBE.f (k + 2) v size = some ((⟨#[]⟩ : ByteArray), 11) := by
  unfold nums_PutBE.f
  rw [if_neg (by omega), decide_eq_false (by omega)]
  simp only [nums_PutBE.j0, nums_fits_uint64.f]
  rw [if_neg (by decide), if_pos (by omega), wrap_in (x := 8 * (size : Int)) (by omega) (by omega), if_pos (by omega), shl_one size h1 h2,
    decide_eq_false (show ¬ v ≤ 256 ^ size - 1 by omega)]
  simp [nums_PutBE.j1]
theorem putBE_fits (v : Int) (size : Nat) (h1 : 1 ≤ size) (h2 : size ≤ 8) (hv : v < 256 ^ size) (k : Nat) (hk : size + 3 ≤ k) :
    nums_PutBE.f k v size = some (strOfNums (be v size), 0) := by
  obtain ⟨k, rfl⟩ : ∃ m, k = m + 2 := ⟨k - 2, by omega⟩
  have hl := putBE_loop v size h2 size 0 k (by omega) (by omega)
  simp only [be, List.append_nil] at hl
  have hl' : nums_PutBE.l0 k v size (List.replicate size 0) size 0 = some (strOfNums (be v size), 0) := hl
  have hj : nums_PutBE.j1 (k + 1) v size false = some (strOfNums (be v size), 0) := by
    simp only [nums_PutBE.j1]
    rw [if_neg (by decide), if_pos (by omega), if_pos (by omega), Int.toNat_natCast]
    exact hl'
  unfold nums_PutBE.f
  rw [if_neg (by omega), decide_eq_false (by omega)]
  simp only [nums_PutBE.j0, nums_fits_uint64.f]
  rw [if_neg (by decide)]
  by_cases h8 : size = 8
  · rw [if_neg (by omega)]; exact hj
  · rw [if_pos (by omega), wrap_in (x := 8 * (size : Int)) (by omega) (by omega), if_pos (by omega), shl_one size h1 (by omega),
      decide_eq_true (show v ≤ 256 ^ size - 1 by omega)]
    exact hj

/-! ### bytes of a text from a place on -/
theorem bt_nb (s : ByteArray) (i : Nat) : bt s (i : Int) = (nb s).getD i 0 := by
  unfold bt
  rw [nb_getD]
  simp only [Int.toNat_natCast]
def sl (s : ByteArray) (at' n : Nat) : List Int := ((nb s).drop at').take n
theorem sl_length (s : ByteArray) (at' n : Nat) (h : at' + n ≤ s.size) : (sl s at' n).length = n := by
  simp only [sl, List.length_take, List.length_drop, nb_length]; omega
theorem sl_succ (s : ByteArray) (at' i : Nat) (h : at' + i < s.size) : sl s at' (i + 1) = sl s at' i ++ [(nb s).getD (at' + i) 0] := by
  have hl : i < ((nb s).drop at').length := by rw [List.length_drop, nb_length]; omega
  unfold sl
  rw [List.take_succ_eq_append_getElem hl, List.getElem_drop, List.getD_eq_getElem?_getD, List.getElem?_eq_getElem (by rw [nb_length]; exact h)]
  rfl
theorem sl_byte {s : ByteArray} {at' n : Nat} {x : Int} (h : x ∈ sl s at' n) : Byte x :=
  nb_byte (List.mem_of_mem_drop (List.mem_of_mem_take h))
theorem or_low (a b : Int) (h0 : 0 ≤ a) (h1 : a < 72057594037927936) (hb : Byte b) : Go.bits .or .u64 (a * 256) b = a * 256 + b := by
  obtain ⟨b0, b1⟩ := hb
  rw [u64_or _ _ (by omega) (by omega) b0 (by omega)]
  obtain ⟨m, rfl⟩ := Int.eq_ofNat_of_zero_le h0
  obtain ⟨n, rfl⟩ := Int.eq_ofNat_of_zero_le b0
  rw [show ((m : Int) * 256).toNat = m * 256 by omega, Int.toNat_natCast, nat_join 8 _ _ (by omega) (by omega)]
  omega
theorem pow_le_56 {i : Nat} (h : i < 8) : (256 : Int) ^ i ≤ 72057594037927936 := by
  have : i = 0 ∨ i = 1 ∨ i = 2 ∨ i = 3 ∨ i = 4 ∨ i = 5 ∨ i = 6 ∨ i = 7 := by omega
  rcases this with rfl | rfl | rfl | rfl | rfl | rfl | rfl | rfl <;> decide

/-! ### BE -/
theorem be_loop (s : ByteArray) (p n : Nat) (hn : n ≤ 8) (hin : p + n ≤ s.size) (hs : s.size ≤ 1000000000000000) : ∀ (d i k : Nat), i + d = n → d < k →
    nums_BE.l0 k s p (val 0 (sl s p i)) n i = some (val 0 (sl s p n), 0) := by
  intro d
  induction d with
  | zero =>
    intro i k hd hk
    obtain ⟨k, rfl⟩ : ∃ m, k = m + 1 := ⟨k - 1, by omega⟩
    obtain rfl : i = n := by omega
    simp only [nums_BE.l0]
    rw [if_neg (by omega)]
  | succ d ih =>
    intro i k hd hk
    obtain ⟨k, rfl⟩ : ∃ m, k = m + 1 := ⟨k - 1, by omega⟩
    have goon := ih (i + 1) k (by omega) (by omega)
    clear ih
    have hi : (i : Int) < n := by omega
    have e1 : wrap64 ((p : Int) + i) = ((p + i : Nat) : Int) := by rw [wrap_in (by omega) (by omega)]; omega
    have e2 : wrap64 ((i : Int) + 1) = ((i + 1 : Nat) : Int) := by rw [wrap_in (by omega) (by omega)]; omega
    have hb := nb_at_byte s (p + i)
    have hl := sl_length s p i (by omega)
    have hr := val_range (fun x hx => sl_byte (s := s) (at' := p) (n := i) hx)
    rw [hl] at hr
    have h56 := pow_le_56 (i := i) (by omega)
    have hs2 := sl_succ s p i (by omega)
    have c1 : (0 : Int) ≤ ((p + i : Nat) : Int) := by omega
    have c2 : ((p + i : Nat) : Int) < (s.size : Int) := by omega
    have h1 : val 0 (sl s p i) < 72057594037927936 := Int.lt_of_lt_of_le hr.2 h56
    rw [hs2, val_snoc] at goon
    generalize val 0 (sl s p i) = a at *
    have hbt := bt_nb s (p + i)
    generalize (nb s).getD (p + i) 0 = b at *
    have e3 : IntKind.u64.wrap (a * 256) = a * 256 := u64_in (by omega) (by omega)
    have e4 : IntKind.u64.wrap b = b := u64_in hb.1 (by have := hb.2; omega)
    simp only [nums_BE.l0]
    rw [if_pos hi, e1, if_pos c1, if_pos c2, hbt, e3, e4, or_low a b hr.1 h1 hb, e2]
    exact goon
theorem be_bad (s : ByteArray) (p n : Int) (hs : s.size ≤ 1000000000000000) (h : n < 1 ∨ 8 < n ∨ p < 0 ∨ (s.size : Int) < n ∨ (s.size : Int) - n < p) (k : Nat) : nums_BE.f (k + 1) s p n = some (0, 10) := by
  unfold nums_BE.f
  by_cases h1 : n < 1
  · rw [if_pos h1]; rfl
  · rw [if_neg h1]
    by_cases h2 : n > 8
    · rw [if_pos h2]; rfl
    · rw [if_neg h2]
      by_cases h3 : p < 0
      · rw [if_pos h3]; rfl
      · rw [if_neg h3]
        by_cases h4 : n > s.size
        · rw [if_pos h4]; rfl
        · rw [if_neg h4, wrap_in (by omega) (by omega), decide_eq_true (by omega)]; rfl
theorem be_good (s : ByteArray) (p n : Nat) (hs : s.size ≤ 1000000000000000) (h1 : 1 ≤ n) (h2 : n ≤ 8) (h : p + n ≤ s.size) (k : Nat) (hk : 10 ≤ k) :
    nums_BE.f k s p n = some (val 0 (sl s p n), 0) := by
  obtain ⟨k, rfl⟩ : ∃ m, k = m + 1 := ⟨k - 1, by omega⟩
  unfold nums_BE.f
  rw [if_neg (by omega), if_neg (by omega), if_neg (by omega), if_neg (by omega), wrap_in (by omega) (by omega), decide_eq_false (by omega)]
  simp only [nums_BE.j0]
  rw [if_neg (by decide)]
  exact be_loop s p n h2 h hs n 0 k (by omega) (by omega)

theorem size_is (n : Int) (h : -9223372036854775808 ≤ n ∧ n ≤ 9223372036854775807) : ∃ k : Nat, 1 ≤ k ∧ k ≤ 8 ∧ annalslaw1_size.f n = some (k : Int) := by
  unfold annalslaw1_size.f
  have hr : -8 < Int.tmod n 8 ∧ Int.tmod n 8 < 8 := by
    constructor
    · have := Int.lt_tmod_of_pos n (show (0 : Int) < 8 by decide); omega
    · exact Int.tmod_lt_of_pos n (by decide)
  generalize Int.tmod n 8 = m at *
  by_cases h1 : m < 0
  · rw [if_pos h1]
    refine ⟨(m + 9).toNat, by omega, by omega, ?_⟩
    rw [wrap_in (x := m + 8) (by omega) (by omega), wrap_in (by omega) (by omega)]
    congr 1; omega
  · rw [if_neg h1]
    refine ⟨(m + 1).toNat, by omega, by omega, ?_⟩
    rw [wrap_in (by omega) (by omega)]
    congr 1; omega
theorem NumsBytes : annalslaw1_NumsBytes.Pure := by
  intro b p n hb wp wn
  have hp := wf_i64 wp
  obtain ⟨s, h1, h2, hsz⟩ := size_is n (wf_i64 wn)
  refine ⟨20, ?_⟩
  unfold annalslaw1_NumsBytes.f
  rw [hsz, Option.bind_some]
  by_cases hp0 : p < 0
  · rw [be_bad b p s (by omega) (by omega), Option.bind_some, if_pos hp0, if_pos rfl]; rfl
  · obtain ⟨p, rfl⟩ := Int.eq_ofNat_of_zero_le (show 0 ≤ p by omega)
    by_cases h3 : (b.size : Int) < s
    · rw [be_bad b p s (by omega) (by omega), Option.bind_some, if_neg hp0, if_pos h3, if_pos rfl]; rfl
    · have e1 : wrap64 ((b.size : Int) - s) = b.size - s := wrap_in (by omega) (by omega)
      by_cases h4 : (p : Int) > b.size - s
      · rw [be_bad b p s (by omega) (by omega), Option.bind_some, if_neg hp0, if_neg h3, e1, if_pos h4, if_pos rfl]; rfl
      · have e2 : wrap64 ((p : Int) + s) = ((p + s : Nat) : Int) := by rw [wrap_in (by omega) (by omega)]; omega
        have hl := sl_length b p s (by omega)
        have hby : ∀ x ∈ sl b p s, Byte x := fun x hx => sl_byte hx
        have hr := val_range hby
        have hv := be_val hby
        rw [hl] at hr hv
        have hput := putBE_fits (val 0 (sl b p s)) s h1 h2 hr.2 20 (by omega)
        rw [hv] at hput
        have c1 : (0 : Int) ≤ p := by omega
        have c2 : (p : Int) ≤ ((p + s : Nat) : Int) := by omega
        have c3 : ((p + s : Nat) : Int) ≤ b.size := by omega
        have hx : strOfNums (sl b p s) = b.extract p (p + s) := by
          apply nb_inj
          rw [nb_son hby, nb_extract]
          simp [sl]
        rw [be_good b p s (by omega) h1 h2 (by omega) 20 (by omega), Option.bind_some, if_neg hp0, if_neg h3, e1, if_neg h4, hput, Option.bind_some, if_pos rfl, if_pos rfl,
          if_pos c1, e2, if_pos c2, if_pos c3, Int.toNat_natCast, Int.toNat_natCast, hx]
        simp

end Go.Proofs.Ythmcibahdbglnaa.Pure
