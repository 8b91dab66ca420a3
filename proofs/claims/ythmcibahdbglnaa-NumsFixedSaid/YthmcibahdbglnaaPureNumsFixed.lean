/- NumsFixed: what fits is read back, wherever it stands, and lesser numbers go ahead; no condition. -/
import Derived.Test.YthmcibahdbglnaaPNumsFixedx2
import Derived.Test.YthmcibahdbglnaaBase
set_option linter.unusedSimpArgs false
set_option linter.unusedVariables false
namespace Go.Proofs.Ythmcibahdbglnaa.Pure
open Go.RowKit Go.Proofs.Ythmcibahdbglnaa.PNumsFixed Go.Proofs.YthmcibahdbglnaaW.PrintWords Go.Proofs.YthmcibahdbglnaaW.PrintLast Go.Proofs.YthmcibahdbglnaaW.PrintMore Go.Proofs.Ythmcibahdbglnaa.Base

/-! ### PutBE -/
theorem set_mid (d : Nat) (ys : List Int) (x : Int) : (List.replicate (d + 1) (0 : Int) ++ ys).set d x = List.replicate d 0 ++ x :: ys := by
  rw [List.replicate_succ', List.append_assoc, List.set_append_right _ _ (by simp)]
  simp
theorem shr8 (v : Int) (i : Nat) (hi : i < 8) : shr .u64 v (8 * (i : Int)) = v / 256 ^ i := by
  unfold shr
  have e : min (8 * (i : Int)).toNat IntKind.u64.bits = 8 * i := by
    have : IntKind.u64.bits = 64 := rfl
    omega
  rw [e, Int.pow_mul]
  rfl
theorem putBE_loop (v : Int) (size : Nat) (hs : size ≤ 8) : ∀ (d i k : Nat), i + d = size → d < k →
    nums_PutBE.l0 k v size (List.replicate d 0 ++ be v i) size i = some (strOfNums (be v size), 0) := by
  intro d
  induction d with
  | zero =>
    intro i k hd hk
    obtain ⟨k, rfl⟩ : ∃ m, k = m + 1 := ⟨k - 1, by omega⟩
    obtain rfl : i = size := by omega
    simp only [nums_PutBE.l0]
    rw [if_neg (by omega)]
    simp
  | succ d ih =>
    intro i k hd hk
    obtain ⟨k, rfl⟩ : ∃ m, k = m + 1 := ⟨k - 1, by omega⟩
    have e1 : wrap64 (8 * (i : Int)) = 8 * i := wrap_in (by omega) (by omega)
    have e2 : wrap64 ((size : Int) - 1) = size - 1 := wrap_in (by omega) (by omega)
    have e3 : wrap64 ((size : Int) - 1 - i) = d := by rw [wrap_in (by omega) (by omega)]; omega
    have e4 : wrap64 ((i : Int) + 1) = ((i + 1 : Nat) : Int) := by rw [wrap_in (by omega) (by omega)]; omega
    have e5 : (List.replicate (d + 1) (0 : Int) ++ be v i).length = size := by simp [be_length]; omega
    simp only [nums_PutBE.l0]
    rw [if_pos (by omega), e1, e2, e3, if_pos (by omega), if_pos (by omega), e5, if_pos (by omega), e4, shr8 v i (by omega), Int.toNat_natCast, set_mid]
    exact ih (i + 1) k (by omega) (by omega)
theorem putBE_bad (v size : Int) (h : size < 1 ∨ 8 < size) (k : Nat) : nums_PutBE.f (k + 1) v size = some ((⟨#[]⟩ : ByteArray), 10) := by
  unfold nums_PutBE.f
  rcases h with h | h
  · rw [if_pos h]; rfl
  · rw [if_neg (by omega), decide_eq_true h]; rfl
theorem shl_one (size : Nat) (h1 : 1 ≤ size) (h2 : size < 8) : IntKind.u64.wrap (shl .u64 1 (8 * (size : Int)) - 1) = 256 ^ size - 1 := by
  have : size = 1 ∨ size = 2 ∨ size = 3 ∨ size = 4 ∨ size = 5 ∨ size = 6 ∨ size = 7 := by omega
  rcases this with rfl | rfl | rfl | rfl | rfl | rfl | rfl <;> decide +kernel
theorem putBE_over (v : Int) (size : Nat) (h1 : 1 ≤ size) (h2 : size < 8) (hv : ¬ v < 256 ^ size) (k : Nat) :
    nums_PutBE.f (k + 2) v size = some ((⟨#[]⟩ : ByteArray), 11) := by
  unfold nums_PutBE.f
  rw [if_neg (by omega), decide_eq_false (by omega)]
  simp only [nums_PutBE.j0, nums_fits_uint64.f]
  rw [if_neg (by decide), if_pos (by omega), wrap_in (x := 8 * (size : Int)) (by omega) (by omega), if_pos (by omega), shl_one size h1 h2,
    decide_eq_false (show ¬ v ≤ 256 ^ size - 1 by omega)]
  simp [nums_PutBE.j1]
theorem putBE_fits (v : Int) (size : Nat) (h1 : 1 ≤ size) (h2 : size ≤ 8) (hv : v < 256 ^ size) (k : Nat) (hk : size + 3 ≤ k) :
    nums_PutBE.f k v size = some (strOfNums (be v size), 0) := by
  obtain ⟨k, rfl⟩ : ∃ m, k = m + 2 := ⟨k - 2, by omega⟩
  have hl := putBE_loop v size h2 size 0 k (by omega) (by omega)
  simp only [be, List.append_nil] at hl
  have hl' : nums_PutBE.l0 k v size (List.replicate size 0) size 0 = some (strOfNums (be v size), 0) := hl
  have hj : nums_PutBE.j1 (k + 1) v size false = some (strOfNums (be v size), 0) := by
    simp only [nums_PutBE.j1]
    rw [if_neg (by decide), if_pos (by omega), if_pos (by omega), Int.toNat_natCast]
    exact hl'
  unfold nums_PutBE.f
  rw [if_neg (by omega), decide_eq_false (by omega)]
  simp only [nums_PutBE.j0, nums_fits_uint64.f]
  rw [if_neg (by decide)]
  by_cases h8 : size = 8
  · rw [if_neg (by omega)]; exact hj
  · rw [if_pos (by omega), wrap_in (x := 8 * (size : Int)) (by omega) (by omega), if_pos (by omega), shl_one size h1 (by omega),
      decide_eq_true (show v ≤ 256 ^ size - 1 by omega)]
    exact hj

/-! ### bytes of a text from a place on -/
theorem bt_nb (s : ByteArray) (i : Nat) : bt s (i : Int) = (nb s).getD i 0 := by
  unfold bt
  rw [nb_getD]
  simp only [Int.toNat_natCast]
def sl (s : ByteArray) (at' n : Nat) : List Int := ((nb s).drop at').take n
theorem sl_length (s : ByteArray) (at' n : Nat) (h : at' + n ≤ s.size) : (sl s at' n).length = n := by
  simp only [sl, List.length_take, List.length_drop, nb_length]; omega
theorem sl_succ (s : ByteArray) (at' i : Nat) (h : at' + i < s.size) : sl s at' (i + 1) = sl s at' i ++ [(nb s).getD (at' + i) 0] := by
  have hl : i < ((nb s).drop at').length := by rw [List.length_drop, nb_length]; omega
  unfold sl
  rw [List.take_succ_eq_append_getElem hl, List.getElem_drop, List.getD_eq_getElem?_getD, List.getElem?_eq_getElem (by rw [nb_length]; exact h)]
  rfl
theorem sl_byte {s : ByteArray} {at' n : Nat} {x : Int} (h : x ∈ sl s at' n) : Byte x :=
  nb_byte (List.mem_of_mem_drop (List.mem_of_mem_take h))
theorem or_low (a b : Int) (h0 : 0 ≤ a) (h1 : a < 72057594037927936) (hb : Byte b) : Go.bits .or .u64 (a * 256) b = a * 256 + b := by
  obtain ⟨b0, b1⟩ := hb
  rw [u64_or _ _ (by omega) (by omega) b0 (by omega)]
  obtain ⟨m, rfl⟩ := Int.eq_ofNat_of_zero_le h0
  obtain ⟨n, rfl⟩ := Int.eq_ofNat_of_zero_le b0
  rw [show ((m : Int) * 256).toNat = m * 256 by omega, Int.toNat_natCast, nat_join 8 _ _ (by omega) (by omega)]
  omega
theorem pow_le_56 {i : Nat} (h : i < 8) : (256 : Int) ^ i ≤ 72057594037927936 := by
  have : i = 0 ∨ i = 1 ∨ i = 2 ∨ i = 3 ∨ i = 4 ∨ i = 5 ∨ i = 6 ∨ i = 7 := by omega
  rcases this with rfl | rfl | rfl | rfl | rfl | rfl | rfl | rfl <;> decide

/-! ### BE -/
theorem be_loop (s : ByteArray) (p n : Nat) (hn : n ≤ 8) (hin : p + n ≤ s.size) (hs : s.size ≤ 1000000000000000) : ∀ (d i k : Nat), i + d = n → d < k →
    nums_BE.l0 k s p (val 0 (sl s p i)) n i = some (val 0 (sl s p n), 0) := by
  intro d
  induction d with
  | zero =>
    intro i k hd hk
    obtain ⟨k, rfl⟩ : ∃ m, k = m + 1 := ⟨k - 1, by omega⟩
    obtain rfl : i = n := by omega
    simp only [nums_BE.l0]
    rw [if_neg (by omega)]
  | succ d ih =>
    intro i k hd hk
    obtain ⟨k, rfl⟩ : ∃ m, k = m + 1 := ⟨k - 1, by omega⟩
    have goon := ih (i + 1) k (by omega) (by omega)
    clear ih
    have hi : (i : Int) < n := by omega
    have e1 : wrap64 ((p : Int) + i) = ((p + i : Nat) : Int) := by rw [wrap_in (by omega) (by omega)]; omega
    have e2 : wrap64 ((i : Int) + 1) = ((i + 1 : Nat) : Int) := by rw [wrap_in (by omega) (by omega)]; omega
    have hb := nb_at_byte s (p + i)
    have hl := sl_length s p i (by omega)
    have hr := val_range (fun x hx => sl_byte (s := s) (at' := p) (n := i) hx)
    rw [hl] at hr
    have h56 := pow_le_56 (i := i) (by omega)
    have hs2 := sl_succ s p i (by omega)
    have c1 : (0 : Int) ≤ ((p + i : Nat) : Int) := by omega
    have c2 : ((p + i : Nat) : Int) < (s.size : Int) := by omega
    have h1 : val 0 (sl s p i) < 72057594037927936 := Int.lt_of_lt_of_le hr.2 h56
    rw [hs2, val_snoc] at goon
    generalize val 0 (sl s p i) = a at *
    have hbt := bt_nb s (p + i)
    generalize (nb s).getD (p + i) 0 = b at *
    have e3 : IntKind.u64.wrap (a * 256) = a * 256 := u64_in (by omega) (by omega)
    have e4 : IntKind.u64.wrap b = b := u64_in hb.1 (by have := hb.2; omega)
    simp only [nums_BE.l0]
    rw [if_pos hi, e1, if_pos c1, if_pos c2, hbt, e3, e4, or_low a b hr.1 h1 hb, e2]
    exact goon
theorem be_bad (s : ByteArray) (p n : Int) (hs : s.size ≤ 1000000000000000) (h : n < 1 ∨ 8 < n ∨ p < 0 ∨ (s.size : Int) < n ∨ (s.size : Int) - n < p) (k : Nat) : nums_BE.f (k + 1) s p n = some (0, 10) := by
  unfold nums_BE.f
  by_cases h1 : n < 1
  · rw [if_pos h1]; rfl
  · rw [if_neg h1]
    by_cases h2 : n > 8
    · rw [if_pos h2]; rfl
    · rw [if_neg h2]
      by_cases h3 : p < 0
      · rw [if_pos h3]; rfl
      · rw [if_neg h3]
        by_cases h4 : n > s.size
        · rw [if_pos h4]; rfl
        · rw [if_neg h4, wrap_in (by omega) (by omega), decide_eq_true (by omega)]; rfl
theorem be_good (s : ByteArray) (p n : Nat) (hs : s.size ≤ 1000000000000000) (h1 : 1 ≤ n) (h2 : n ≤ 8) (h : p + n ≤ s.size) (k : Nat) (hk : 10 ≤ k) :
    nums_BE.f k s p n = some (val 0 (sl s p n), 0) := by
  obtain ⟨k, rfl⟩ : ∃ m, k = m + 1 := ⟨k - 1, by omega⟩
  unfold nums_BE.f
  rw [if_neg (by omega), if_neg (by omega), if_neg (by omega), if_neg (by omega), wrap_in (by omega) (by omega), decide_eq_false (by omega)]
  simp only [nums_BE.j0]
  rw [if_neg (by decide)]
  exact be_loop s p n h2 h hs n 0 k (by omega) (by omega)

theorem empty_list : (⟨#[]⟩ : ByteArray).toList = ([] : List UInt8) := by rw [toList_data]
theorem bytesLess_irrefl_append (xs ys : List UInt8) (a b : UInt8) : Op.bytesLess (a :: xs) (b :: ys) = (decide (a < b) || (a == b && Op.bytesLess xs ys)) := rfl
theorem less_be (v u : Int) (hv : 0 ≤ v) (hu : 0 ≤ u) (n : Nat) : Op.bytesLess ((be v n).map fun x => UInt8.ofNat x.toNat) ((be u n).map fun x => UInt8.ofNat x.toNat) = decide (v % 256 ^ n < u % 256 ^ n) := by
  induction n with
  | zero => simp [be, Op.bytesLess, Int.emod_one]
  | succ n ih =>
    have hp : (0 : Int) < 256 ^ n := Int.pow_pos (by decide)
    rw [be, be, List.map_cons, List.map_cons, bytesLess_irrefl_append, ih, Int.pow_succ, emod_mul v hp, emod_mul u hp]
    have r0 := Int.emod_nonneg v (show (256 : Int) ^ n ≠ 0 by omega)
    have r1 := Int.emod_lt_of_pos v hp
    have s0 := Int.emod_nonneg u (show (256 : Int) ^ n ≠ 0 by omega)
    have s1 := Int.emod_lt_of_pos u hp
    have a0 : 0 ≤ v / 256 ^ n % 256 := by omega
    have a1 : v / 256 ^ n % 256 < 256 := by omega
    have b0 : 0 ≤ u / 256 ^ n % 256 := by omega
    have b1 : u / 256 ^ n % 256 < 256 := by omega
    generalize v / 256 ^ n % 256 = a at *
    generalize u / 256 ^ n % 256 = b at *
    generalize v % 256 ^ n = r at *
    generalize u % 256 ^ n = s at *
    generalize (256 : Int) ^ n = p at *
    have lt_iff : UInt8.ofNat a.toNat < UInt8.ofNat b.toNat ↔ a < b := by
      rw [UInt8.lt_iff_toNat_lt, UInt8.toNat_ofNat', UInt8.toNat_ofNat']; omega
    have eq_iff : UInt8.ofNat a.toNat = UInt8.ofNat b.toNat ↔ a = b := by
      rw [← UInt8.toNat_inj, UInt8.toNat_ofNat', UInt8.toNat_ofNat']; omega
    rcases Int.lt_trichotomy a b with h | h | h
    · rw [decide_eq_true (lt_iff.2 h)]
      have := Int.mul_le_mul_of_nonneg_left (show a + 1 ≤ b by omega) (Int.le_of_lt hp)
      rw [Int.mul_add, Int.mul_one] at this
      rw [decide_eq_true (show r + p * a < s + p * b by omega)]
      rfl
    · subst h
      rw [decide_eq_false (fun h => by have := lt_iff.1 h; omega), beq_self_eq_true]
      simp
    · rw [decide_eq_false (fun h' => by have := lt_iff.1 h'; omega), beq_eq_false_iff_ne.2 (fun h' => by have := eq_iff.1 h'; omega)]
      have := Int.mul_le_mul_of_nonneg_left (show b + 1 ≤ a by omega) (Int.le_of_lt hp)
      rw [Int.mul_add, Int.mul_one] at this
      rw [decide_eq_false (show ¬ r + p * a < s + p * b by omega)]
      rfl
theorem size_is (n : Int) (h : -9223372036854775808 ≤ n ∧ n ≤ 9223372036854775807) : ∃ k : Nat, 1 ≤ k ∧ k ≤ 8 ∧ annalslaw1_size.f n = some (k : Int) := by
  unfold annalslaw1_size.f
  have hr : -8 < Int.tmod n 8 ∧ Int.tmod n 8 < 8 := by
    constructor
    · have := Int.lt_tmod_of_pos n (show (0 : Int) < 8 by decide); omega
    · exact Int.tmod_lt_of_pos n (by decide)
  generalize Int.tmod n 8 = m at *
  by_cases h1 : m < 0
  · rw [if_pos h1]
    refine ⟨(m + 9).toNat, by omega, by omega, ?_⟩
    rw [wrap_in (x := m + 8) (by omega) (by omega), wrap_in (by omega) (by omega)]
    congr 1; omega
  · rw [if_neg h1]
    refine ⟨(m + 1).toNat, by omega, by omega, ?_⟩
    rw [wrap_in (by omega) (by omega)]
    congr 1; omega
theorem shl_fits (size : Nat) (h1 : 1 ≤ size) (h2 : size < 8) : 0 ≤ IntKind.u64.wrap (wrap64 (8 * (size : Int))) ∧ shl .u64 1 (IntKind.u64.wrap (wrap64 (8 * (size : Int)))) = 256 ^ size := by
  have : size = 1 ∨ size = 2 ∨ size = 3 ∨ size = 4 ∨ size = 5 ∨ size = 6 ∨ size = 7 := by omega
  rcases this with rfl | rfl | rfl | rfl | rfl | rfl | rfl <;> exact ⟨by decide +kernel, by decide +kernel⟩
theorem be_inj {v u : Int} {n : Nat} (hv : 0 ≤ v) (hv2 : v < 256 ^ n) (hu : 0 ≤ u) (hu2 : u < 256 ^ n) : be v n = be u n ↔ v = u := by
  constructor
  · intro h
    have := val_be v n
    rw [h, val_be, Int.emod_eq_of_lt hv hv2, Int.emod_eq_of_lt hu hu2] at this
    exact this.symm
  · rintro rfl; rfl
theorem putBE_any (v : Int) (hv : 0 ≤ v ∧ v < 18446744073709551616) (s : Nat) (h1 : 1 ≤ s) (h2 : s ≤ 8) (k : Nat) (hk : 11 ≤ k) :
    nums_PutBE.f k v s = if v < 256 ^ s then some (strOfNums (be v s), 0) else some ((⟨#[]⟩ : ByteArray), 11) := by
  by_cases h : v < 256 ^ s
  · rw [if_pos h]; exact putBE_fits v s h1 h2 h k (by omega)
  · rw [if_neg h]
    have h8 : s < 8 := by
      rcases Nat.lt_or_ge s 8 with h8 | h8
      · exact h8
      · obtain rfl : s = 8 := by omega
        exact absurd (show v < 256 ^ 8 by omega) h
    obtain ⟨k, rfl⟩ : ∃ m, k = m + 2 := ⟨k - 2, by omega⟩
    exact putBE_over v s h1 h8 h k
theorem sl_mid (a s b : ByteArray) : sl ((a ++ s) ++ b) a.size s.size = nb s := by
  unfold sl
  rw [nb_append, nb_append, List.append_assoc, List.drop_append_of_le_length (by rw [nb_length]; omega), List.drop_of_length_le (by rw [nb_length]; omega), List.nil_append,
    List.take_append_of_le_length (by rw [nb_length]; omega), List.take_of_length_le (by rw [nb_length]; omega)]
theorem fixed_rest (k : Nat) (v u : Int) (hv : 0 ≤ v ∧ v < 18446744073709551616) (hu : 0 ≤ u ∧ u < 18446744073709551616) (s : Nat) (h1 : 1 ≤ s) (h2 : s ≤ 8) (a b : ByteArray)
    (ha : a.size ≤ 140737488351232) (hb : b.size ≤ 140737488351232) (hk : 12 ≤ k) (S T : ByteArray) (e f : Int)
    (hS : (S, e) = if v < 256 ^ s then (strOfNums (be v s), 0) else ((⟨#[]⟩ : ByteArray), 11)) (hT : (T, f) = if u < 256 ^ s then (strOfNums (be u s), 0) else ((⟨#[]⟩ : ByteArray), 11)) :
    annalslaw1_NumsFixed.j1 k v u a b s S e T f (decide (v < 256 ^ s)) (decide (u < 256 ^ s)) = some true := by
  obtain ⟨k, rfl⟩ : ∃ m, k = m + 2 := ⟨k - 2, by omega⟩
  simp only [annalslaw1_NumsFixed.j1]
  by_cases h : v < 256 ^ s
  · rw [if_pos h] at hS
    obtain ⟨rfl, rfl⟩ := Prod.mk.inj hS
    have hss : (strOfNums (be v s)).size = s := by rw [son_size, be_length]
    have hsz : ((a ++ strOfNums (be v s)) ++ b).size = a.size + s + b.size := by rw [ByteArray.size_append, ByteArray.size_append, hss]
    have hbe := be_good ((a ++ strOfNums (be v s)) ++ b) a.size s (by omega) h1 h2 (by omega) (k + 1) (by omega)
    have hmid := sl_mid a (strOfNums (be v s)) b
    rw [hss, nb_son (be_byte v s)] at hmid
    rw [hmid, val_be, Int.emod_eq_of_lt hv.1 h] at hbe
    rw [decide_eq_true h, if_pos rfl, if_pos (by omega), if_pos (by rw [ByteArray.size_append]; omega), hbe, Option.bind_some, if_pos rfl, if_pos (by omega), if_pos rfl]
    simp only [annalslaw1_NumsFixed.j2, bne_self_eq_false]
    rw [if_neg (by decide)]
    by_cases h' : u < 256 ^ s
    · rw [if_pos h'] at hT
      obtain ⟨rfl, rfl⟩ := Prod.mk.inj hT
      rw [decide_eq_true h', if_pos rfl, if_pos rfl, toList_data, toList_data, son_list, son_list, less_be v u hv.1 hu.1, Int.emod_eq_of_lt hv.1 h, Int.emod_eq_of_lt hu.1 h', if_pos (by simp)]
      have : (List.map (fun n => UInt8.ofNat n.toNat) (be v s) == List.map (fun n => UInt8.ofNat n.toNat) (be u s)) = (v == u) := by
        rw [Bool.eq_iff_iff, beq_iff_eq, beq_iff_eq, ← be_inj hv.1 h hu.1 h']
        constructor
        · intro e
          have e2 : strOfNums (be v s) = strOfNums (be u s) := ext_toList (by rw [toList_data, toList_data, son_list, son_list]; exact e)
          rw [← nb_son (be_byte v s), ← nb_son (be_byte u s), e2]
        · intro e; rw [e]
      rw [this]; simp
    · rw [if_neg h'] at hT
      obtain ⟨rfl, rfl⟩ := Prod.mk.inj hT
      rw [decide_eq_false h', if_neg (by decide), if_pos empty_list]
      rfl
  · rw [if_neg h] at hS
    obtain ⟨rfl, rfl⟩ := Prod.mk.inj hS
    rw [decide_eq_false h, if_neg (by decide), if_pos empty_list]
    rfl
theorem NumsFixed : annalslaw1_NumsFixed.Pure := by
  intro v u n a b wv wu wn ha hb
  have hv := wf_u64 wv
  have hu := wf_u64 wu
  obtain ⟨s, h1, h2, hsz⟩ := size_is n (wf_i64 wn)
  refine ⟨20, ?_⟩
  have p1 := putBE_any v hv s h1 h2 20 (by omega)
  have p2 := putBE_any u hu s h1 h2 20 (by omega)
  have q1 : ∃ S e, nums_PutBE.f 20 v s = some (S, e) ∧ (S, e) = if v < 256 ^ s then (strOfNums (be v s), (0 : Int)) else ((⟨#[]⟩ : ByteArray), 11) := by
    rw [p1]; split <;> exact ⟨_, _, rfl, rfl⟩
  have q2 : ∃ T f, nums_PutBE.f 20 u s = some (T, f) ∧ (T, f) = if u < 256 ^ s then (strOfNums (be u s), (0 : Int)) else ((⟨#[]⟩ : ByteArray), 11) := by
    rw [p2]; split <;> exact ⟨_, _, rfl, rfl⟩
  obtain ⟨S, e, hS, HS⟩ := q1
  obtain ⟨T, f, hT, HT⟩ := q2
  have hr := fixed_rest 19 v u hv hu s h1 h2 a b ha hb (by omega) S T e f HS HT
  unfold annalslaw1_NumsFixed.f
  rw [hsz, Option.bind_some, hS, Option.bind_some, hT, Option.bind_some]
  by_cases h8 : s = 8
  · subst h8
    rw [if_pos (by rfl)]
    simp only [annalslaw1_NumsFixed.j0]
    rw [if_pos (by rfl)]
    rw [decide_eq_true (show v < 256 ^ 8 by have := hv.2; omega), decide_eq_true (show u < 256 ^ 8 by have := hu.2; omega)] at hr
    exact hr
  · obtain ⟨f1, f2⟩ := shl_fits s h1 (by omega)
    rw [if_neg (by omega), if_pos f1]
    simp only [annalslaw1_NumsFixed.j0]
    rw [if_neg (by omega), if_pos f1, f2]
    exact hr

end Go.Proofs.Ythmcibahdbglnaa.Pure
