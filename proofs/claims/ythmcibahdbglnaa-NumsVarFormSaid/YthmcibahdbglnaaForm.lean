/- NumsVarForm: what Var reads is just the form that PutVar writes; cut off, or lengthened by a byte 0, it is refused; no condition. -/
import Derived.Test.YthmcibahdbglnaaPNumsVarFormx1
import Derived.Test.YthmcibahdbglnaaBase
import Derived.Outline
set_option linter.unusedVariables false
set_option linter.unusedSimpArgs false
namespace Go.Proofs.Ythmcibahdbglnaa.Form
open Go.RowKit Go.Proofs.Ythmcibahdbglnaa.Base Go.Proofs.YthmcibahdbglnaaW.PrintWords Go.Proofs.YthmcibahdbglnaaW.PrintMore Go.Proofs.Ythmcibahdbglnaa.PNumsVarForm

def Txt (s : ByteArray) (w : World) (e : Ending) (w' : World) : Prop := e = .returned (.string s) ∧ Below w.heap.size w w'
def Three (x n e : Int) (w : World) (E : Ending) (w' : World) : Prop := E = .returned (.tuple #[.int .u64 x, .int .i64 n, .int .i64 e]) ∧ Drawn0 w w'
def True1 (w : World) (e : Ending) (w' : World) : Prop := e = .returned (.bool true) ∧ Below w.heap.size w w'

/-! ### PutVar -/
/-- The digits of a number, seven bits each, the lowest first. -/
def leb (v : Nat) : List Int := if v < 128 then [(v : Int)] else ((v % 128 + 128 : Nat) : Int) :: leb (v / 128)
termination_by v
decreasing_by omega
theorem leb_small {v : Nat} (h : v < 128) : leb v = [(v : Int)] := by rw [leb, if_pos h]
theorem leb_big {v : Nat} (h : ¬ v < 128) : leb v = ((v % 128 + 128 : Nat) : Int) :: leb (v / 128) := by rw [leb, if_neg h]
theorem leb_byte (v : Nat) : ∀ x ∈ leb v, Byte x := by
  induction v using Nat.strongRecOn with
  | _ v ih =>
    intro x hx
    by_cases h : v < 128
    · rw [leb_small h] at hx
      simp only [List.mem_cons, List.not_mem_nil, or_false] at hx
      subst hx
      exact ⟨by omega, by omega⟩
    · rw [leb_big h] at hx
      simp only [List.mem_cons] at hx
      rcases hx with rfl | hx
      · exact ⟨by omega, by omega⟩
      · exact ih (v / 128) (by omega) x hx
theorem leb_length_pos (v : Nat) : 0 < (leb v).length := by rw [leb]; split <;> simp
theorem leb_length_le (n v : Nat) (h : v < 128 ^ (n + 1)) : (leb v).length ≤ n + 1 := by
  induction n generalizing v with
  | zero => rw [leb_small (by simpa using h)]; simp
  | succ n ih =>
    by_cases h1 : v < 128
    · rw [leb_small h1]; simp
    · rw [leb_big h1, List.length_cons]
      have := ih (v / 128) (by rw [Nat.div_lt_iff_lt_mul (by decide)]; rw [Nat.pow_succ] at h; exact h)
      omega
theorem leb_length_64 {v : Nat} (h : v < 18446744073709551616) : (leb v).length ≤ 10 := leb_length_le 9 v (by omega)
theorem or128 (a : Nat) (h : a < 256) : Go.bits .or .u8 (a : Int) 128 = ((a % 128 + 128 : Nat) : Int) := by
  have := u8_or_nat a 128 h (by decide)
  rw [show ((128 : Nat) : Int) = 128 from rfl] at this
  rw [this]
  have : ∀ a, a < 256 → a ||| 128 = a % 128 + 128 := by decide +kernel
  rw [this a h]
theorem putVar_loop (n : Nat) : ∀ (v : Nat) (ys : List Int) (k : Nat), (leb v).length ≤ n → n ≤ k → ys.length + n ≤ 1000 →
    nums_PutVar.l0 k (v : Int) ys = some (strOfNums (ys ++ leb v)) := by
  induction n with
  | zero => intro v _ _ h; have := leb_length_pos v; omega
  | succ n ih =>
    intro v ys k h hk hy
    obtain ⟨k, rfl⟩ : ∃ m, k = m + 1 := ⟨k - 1, by omega⟩
    simp only [nums_PutVar.l0, nums_fits_uint64.f, Option.bind_some]
    by_cases hv : v < 128
    · rw [decide_eq_true (show (v : Int) ≤ 127 by omega), if_pos rfl, if_pos (by omega), leb_small hv]
      rw [show (v : Int) % 256 = v by omega]
    · rw [decide_eq_false (show ¬ (v : Int) ≤ 127 by omega), if_neg (by decide), if_pos (by omega)]
      rw [leb_big hv] at h ⊢
      have e : ((v : Int) % 256) = ((v % 256 : Nat) : Int) := by omega
      have e2 : ((v : Int) / 128) = ((v / 128 : Nat) : Int) := by omega
      rw [e, or128 _ (by omega), e2, ih (v / 128) _ k (by simpa using h) (by omega) (by simp; omega)]
      rw [show v % 256 % 128 = v % 128 by omega]
      simp
theorem putVar_is (v : Nat) (hv : v < 18446744073709551616) (k : Nat) (hk : 10 ≤ k) : nums_PutVar.f k (v : Int) = some (strOfNums (leb v)) := by
  unfold nums_PutVar.f
  have := putVar_loop 10 v [] k (leb_length_64 hv) hk (by simp)
  simpa using this

/-! ### bytes of a text from a place on -/
theorem bt_nb (s : ByteArray) (i : Nat) : bt s (i : Int) = (nb s).getD i 0 := by
  unfold bt
  rw [nb_getD]
  simp only [Int.toNat_natCast]
def sl (s : ByteArray) (at' n : Nat) : List Int := ((nb s).drop at').take n
theorem sl_length (s : ByteArray) (at' n : Nat) (h : at' + n ≤ s.size) : (sl s at' n).length = n := by
  simp only [sl, List.length_take, List.length_drop, nb_length]; omega
theorem sl_succ (s : ByteArray) (at' i : Nat) (h : at' + i < s.size) : sl s at' (i + 1) = sl s at' i ++ [(nb s).getD (at' + i) 0] := by
  have hl : i < ((nb s).drop at').length := by rw [List.length_drop, nb_length]; omega
  unfold sl
  rw [List.take_succ_eq_append_getElem hl, List.getElem_drop, List.getD_eq_getElem?_getD, List.getElem?_eq_getElem (by rw [nb_length]; exact h)]
  rfl
theorem sl_byte {s : ByteArray} {at' n : Nat} {x : Int} (h : x ∈ sl s at' n) : Byte x :=
  nb_byte (List.mem_of_mem_drop (List.mem_of_mem_take h))
theorem or_low (a b : Int) (h0 : 0 ≤ a) (h1 : a < 72057594037927936) (hb : Byte b) : Go.bits .or .u64 (a * 256) b = a * 256 + b := by
  obtain ⟨b0, b1⟩ := hb
  rw [u64_or _ _ (by omega) (by omega) b0 (by omega)]
  obtain ⟨m, rfl⟩ := Int.eq_ofNat_of_zero_le h0
  obtain ⟨n, rfl⟩ := Int.eq_ofNat_of_zero_le b0
  rw [show ((m : Int) * 256).toNat = m * 256 by omega, Int.toNat_natCast, nat_join 8 _ _ (by omega) (by omega)]
  omega
theorem pow_le_56 {i : Nat} (h : i < 8) : (256 : Int) ^ i ≤ 72057594037927936 := by
  have : i = 0 ∨ i = 1 ∨ i = 2 ∨ i = 3 ∨ i = 4 ∨ i = 5 ∨ i = 6 ∨ i = 7 := by omega
  rcases this with rfl | rfl | rfl | rfl | rfl | rfl | rfl | rfl <;> decide

/-! ### Var on a list of bytes -/
def rv (p : Int) : Nat → Int → List Int → Int × Int × Int
  | 0, _, _ => (0, 0, 11)
  | _ + 1, _, [] => (0, 0, 12)
  | d + 1, acc, c :: xs =>
    if d = 0 ∧ c > 1 then (0, 0, 11)
    else if d < 9 ∧ c = 0 then (0, 0, 13)
    else if c < 128 then (acc + c % 128 * 128 ^ (9 - d), p + ((9 - d : Nat) : Int) + 1, 0)
    else rv p d (acc + c % 128 * 128 ^ (9 - d)) xs
theorem pow_le_63 {i : Nat} (h : i < 9) : (128 : Int) ^ i ≤ 72057594037927936 := by
  have : i = 0 ∨ i = 1 ∨ i = 2 ∨ i = 3 ∨ i = 4 ∨ i = 5 ∨ i = 6 ∨ i = 7 ∨ i = 8 := by omega
  rcases this with rfl | rfl | rfl | rfl | rfl | rfl | rfl | rfl | rfl <;> decide
/-- What is added stays below 2^64. -/
theorem part_range (i : Nat) (hi : i ≤ 9) (c : Int) (hc : Byte c) (h9 : i = 9 → c ≤ 1) (acc : Int) (h0 : 0 ≤ acc) (h1 : acc < 128 ^ i) :
    0 ≤ c % 128 * 128 ^ i ∧ acc + c % 128 * 128 ^ i < 18446744073709551616 ∧ (i < 9 → acc + c % 128 * 128 ^ i < 128 ^ (i + 1)) := by
  obtain ⟨c0, c1⟩ := hc
  have hp : (0 : Int) < 128 ^ i := Int.pow_pos (by decide)
  have m0 : 0 ≤ c % 128 := by omega
  have m1 : c % 128 ≤ 127 := by omega
  have hm := Int.mul_nonneg m0 (Int.le_of_lt hp)
  by_cases h : i = 9
  · subst h
    have := h9 rfl
    have e : (128 : Int) ^ 9 = 9223372036854775808 := by decide
    rw [e] at *
    exact ⟨by omega, by omega, fun h => by omega⟩
  · have hle := pow_le_63 (i := i) (by omega)
    have hm2 := Int.mul_le_mul_of_nonneg_right m1 (Int.le_of_lt hp)
    rw [Int.pow_succ]
    exact ⟨hm, by omega, fun _ => by omega⟩
theorem shl7 (i : Nat) (hi : i ≤ 9) (c : Int) (hc : Byte c) (h9 : i = 9 → c ≤ 1) : shl .u64 (c % 128) (7 * (i : Int)) = c % 128 * 128 ^ i := by
  have hr := part_range i hi c hc h9 0 (Int.le_refl _) (Int.pow_pos (by decide))
  unfold shl
  have e : min (7 * (i : Int)).toNat IntKind.u64.bits = 7 * i := by
    have : IntKind.u64.bits = 64 := rfl
    omega
  rw [e, Int.pow_mul, show (2 : Int) ^ 7 = 128 from rfl]
  exact u64_in hr.1 (by have := hr.2.1; rwa [Int.zero_add] at this)
theorem and127 (c : Int) (hc : Byte c) : Go.bits .and .u8 c 127 = c % 128 := by
  obtain ⟨c0, c1⟩ := hc
  obtain ⟨n, rfl⟩ := Int.eq_ofNat_of_zero_le c0
  have := u8_and_nat n 127 (by omega) (by decide)
  rw [show ((127 : Nat) : Int) = 127 from rfl] at this
  rw [this, nat_mask7]
  omega
theorem or_high (i : Nat) (hi : i ≤ 9) (c : Int) (hc : Byte c) (h9 : i = 9 → c ≤ 1) (acc : Int) (h0 : 0 ≤ acc) (h1 : acc < 128 ^ i) :
    Go.bits .or .u64 acc (c % 128 * 128 ^ i) = acc + c % 128 * 128 ^ i := by
  have hr := part_range i hi c hc h9 acc h0 h1
  obtain ⟨m, hm⟩ := Int.eq_ofNat_of_zero_le (show 0 ≤ c % 128 by have := hc.1; omega)
  rw [hm] at hr ⊢
  clear hm
  obtain ⟨a, rfl⟩ := Int.eq_ofNat_of_zero_le h0
  have e : ((m : Int) * 128 ^ i) = ((m * 128 ^ i : Nat) : Int) := by simp
  have e2 : (128 : Int) ^ i = ((128 ^ i : Nat) : Int) := by simp
  rw [e2] at h1
  rw [e] at hr ⊢
  clear e e2
  have h3 : a < 128 ^ i := by omega
  rw [u64_or _ _ h0 (by omega) (by omega) (by omega), Int.toNat_natCast, Int.toNat_natCast, Nat.or_comm,
    nat_join (7 * i) _ _ (by rw [Nat.pow_mul]; exact Nat.mul_mod_left _ _) (by rw [Nat.pow_mul]; exact h3)]
  omega
theorem rv_leb (p : Int) (rest : List Int) : ∀ (d : Nat) (acc : Int) (u : Nat), 1 ≤ d → d ≤ 10 → (d < 10 → u ≠ 0) → u * 128 ^ (10 - d) < 18446744073709551616 →
    rv p d acc (leb u ++ rest) = (acc + (u : Int) * 128 ^ (10 - d), p + ((10 - d + (leb u).length : Nat) : Int), 0) := by
  intro d
  induction d with
  | zero => intro _ _ h; omega
  | succ d ih =>
    intro acc u _ hd hu hr
    rw [show 10 - (d + 1) = 9 - d by omega] at *
    have h9 : d = 0 → u ≤ 1 := fun h => by subst h; omega
    by_cases hs : u < 128
    · rw [leb_small hs, List.singleton_append]
      simp only [rv]
      rw [if_neg (by omega), if_neg (by omega), if_pos (by omega), show (u : Int) % 128 = u by omega]
      congr 2
      simp only [List.length_cons, List.length_nil]
      omega
    · have hd0 : d ≠ 0 := fun h => by have := h9 h; omega
      rw [leb_big hs, List.cons_append]
      simp only [rv]
      rw [if_neg (by omega), if_neg (by omega), if_neg (by omega)]
      have e : ((u % 128 + 128 : Nat) : Int) % 128 = (u % 128 : Nat) := by omega
      have hpow : 128 ^ (10 - d) = 128 ^ (9 - d) * 128 := by rw [show 10 - d = (9 - d) + 1 by omega, Nat.pow_succ]
      have hmul : u / 128 * 128 ^ (10 - d) ≤ u * 128 ^ (9 - d) := by
        rw [hpow, Nat.mul_comm (128 ^ (9 - d)), ← Nat.mul_assoc]
        exact Nat.mul_le_mul_right _ (Nat.div_mul_le_self u 128)
      rw [e, ih _ (u / 128) (by omega) (by omega) (fun _ => by omega) (by omega)]
      have hpow' : (128 : Int) ^ (10 - d) = 128 ^ (9 - d) * 128 := by rw [show 10 - d = (9 - d) + 1 by omega, Int.pow_succ]
      rw [hpow']
      have hu' : (u : Int) = ((u % 128 : Nat) : Int) + 128 * ((u / 128 : Nat) : Int) := by omega
      refine Prod.ext ?_ (Prod.ext ?_ rfl)
      · show acc + ((u % 128 : Nat) : Int) * 128 ^ (9 - d) + ((u / 128 : Nat) : Int) * (128 ^ (9 - d) * 128) = acc + (u : Int) * 128 ^ (9 - d)
        generalize (128 : Int) ^ (9 - d) = P
        generalize ((u % 128 : Nat) : Int) = A at *
        generalize ((u / 128 : Nat) : Int) = B at *
        rw [hu']
        grind
      · show p + ((10 - d + (leb (u / 128)).length : Nat) : Int) = p + ((9 - d + (((u % 128 + 128 : Nat) : Int) :: leb (u / 128)).length : Nat) : Int)
        simp only [List.length_cons]
        omega

/-! ### Var -/
theorem var_loop (s : ByteArray) (p : Nat) (hs : s.size ≤ 1000000000000000) (hp : p ≤ s.size) : ∀ (d : Nat) (acc : Int) (k : Nat), d ≤ 10 → 0 ≤ acc → acc < 128 ^ (10 - d) → 4 * d + 1 ≤ k →
    nums_Var.l0 k s p acc ((10 - d : Nat) : Int) = some (rv p d acc ((nb s).drop (p + (10 - d)))) := by
  intro d
  induction d with
  | zero =>
    intro acc k _ _ _ hk
    obtain ⟨k, rfl⟩ : ∃ m, k = m + 1 := ⟨k - 1, by omega⟩
    simp only [nums_Var.l0]
    rw [if_neg (by omega)]
    rfl
  | succ d ih =>
    intro acc k hd h0 h1 hk
    obtain ⟨k, rfl⟩ : ∃ m, k = m + 3 := ⟨k - 3, by omega⟩
    have goon := fun acc => ih acc k (by omega)
    clear ih
    rw [show 10 - (d + 1) = 9 - d by omega] at *
    rw [show 10 - d = 9 - d + 1 by omega] at *
    have hi : 9 - d ≤ 9 := by omega
    have hdi : d = 9 - (9 - d) := by omega
    have hd9 : d < 9 ↔ 0 < 9 - d := by omega
    have hd0 : d = 0 ↔ 9 - d = 9 := by omega
    generalize 9 - d = i at *
    have e1 : Aside0 (wrap64 ((p : Int) + i) = ((p + i : Nat) : Int)) := ⟨by rw [wrap_in (by omega) (by omega)]; omega⟩
    have e2 : Aside0 (wrap64 ((i : Int) + 1) = ((i + 1 : Nat) : Int)) := ⟨by rw [wrap_in (by omega) (by omega)]; omega⟩
    have e3 : Aside0 (wrap64 (7 * (i : Int)) = 7 * i) := ⟨wrap_in (by omega) (by omega)⟩
    have e4 : Aside0 (wrap64 (((p + i : Nat) : Int) + 1) = ((p + i : Nat) : Int) + 1) := ⟨wrap_in (by omega) (by omega)⟩
    have c1 : (i : Int) < 10 := by omega
    have c2 : (0 : Int) ≤ ((p + i : Nat) : Int) := by omega
    have c4 : (0 : Int) ≤ 7 * (i : Int) := by omega
    have c5 : ((p + i : Nat) : Int) + 1 = (p : Int) + i + 1 := by omega
    by_cases hend : s.size ≤ p + i
    · rw [List.drop_of_length_le (by rw [nb_length]; omega)]
      simp only [nums_Var.l0]
      rw [if_pos c1, e1.out, if_pos (by omega)]
      rfl
    · have c3 : ((p + i : Nat) : Int) < (s.size : Int) := by omega
      have c6 : ¬ ((p + i : Nat) : Int) ≥ (s.size : Int) := by omega
      have hsplit : (nb s).drop (p + i) = (nb s).getD (p + i) 0 :: (nb s).drop (p + (i + 1)) := by
        rw [List.drop_eq_getElem_cons (by rw [nb_length]; omega), List.getD_eq_getElem?_getD, List.getElem?_eq_getElem (by rw [nb_length]; omega)]
        rfl
      have hb := nb_at_byte s (p + i)
      have hbt := bt_nb s (p + i)
      rw [hsplit]
      generalize (nb s).getD (p + i) 0 = c at *
      clear hsplit
      simp only [nums_Var.l0]
      rw [if_pos c1, e1.out, if_neg c6, if_pos c2, if_pos c3, hbt]
      by_cases q1 : i = 9 ∧ 1 < c
      · have hr : rv p (d + 1) acc (c :: (nb s).drop (p + (i + 1))) = (0, 0, 11) := by
          simp only [rv]; rw [if_pos ⟨hd0.2 q1.1, q1.2⟩]
        rw [hr, if_pos (by omega), decide_eq_true (show c > 1 from q1.2)]
        simp only [nums_Var.j2]
        rw [if_pos trivial]
      · have hj : (if (i : Int) = 9 then nums_Var.j2 (k + 2) s p acc i c i (decide (c > 1)) else nums_Var.j2 (k + 2) s p acc i c i false) = nums_Var.j2 (k + 2) s p acc i c i false := by
          by_cases h : (i : Int) = 9
          · rw [if_pos h, decide_eq_false (by omega)]
          · rw [if_neg h]
        rw [hj]
        clear hj
        have h9 : i = 9 → c ≤ 1 := fun h => by omega
        by_cases q2 : 0 < i ∧ c = 0
        · have hr : rv p (d + 1) acc (c :: (nb s).drop (p + (i + 1))) = (0, 0, 13) := by
            simp only [rv]; rw [if_neg (by omega), if_pos ⟨hd9.2 q2.1, q2.2⟩]
          rw [hr]
          simp only [nums_Var.j2]
          rw [if_neg (by decide), if_pos (by omega), q2.2]
          simp only [nums_Var.j3]
          rw [if_pos (by decide)]
        · have hj : nums_Var.j2 (k + 2) s p acc i c i false = nums_Var.j3 (k + 1) s p acc i c i false := by
            simp only [nums_Var.j2]
            rw [if_neg (by decide)]
            by_cases h : (i : Int) > 0
            · rw [if_pos h, beq_eq_false_iff_ne.2 (by omega)]
            · rw [if_neg h]
          rw [hj]
          clear hj
          have hr := part_range i hi c hb h9 acc h0 h1
          have eu : Aside0 (IntKind.u64.wrap (c % 128) = c % 128) := ⟨u64_in (by have := hb.1; omega) (by omega)⟩
          have hrv : rv p (d + 1) acc (c :: (nb s).drop (p + (i + 1))) = if c < 128 then (acc + c % 128 * 128 ^ i, (p : Int) + i + 1, 0) else rv p d (acc + c % 128 * 128 ^ i) ((nb s).drop (p + (i + 1))) := by
            simp only [rv]
            rw [if_neg (by omega), if_neg (by omega), show 9 - d = i by omega]
          have hgo : ¬ c < 128 → i < 9 := fun h => by
            rcases Nat.lt_or_ge i 9 with h' | h'
            · exact h'
            · have := h9 (by omega); omega
          rw [hrv]
          simp only [nums_Var.j3]
          rw [if_neg (by decide), e3.out, if_pos c4, and127 c hb, eu.out, shl7 i hi c hb h9, or_high i hi c hb h9 acc h0 h1, e1.out, e4.out, c5, e2.out]
          by_cases hc : c < 128
          · rw [if_pos hc, if_pos hc]
          · rw [if_neg hc, if_neg hc]
            have hlt := hr.2.2 (hgo hc)
            exact goon _ (Int.add_nonneg h0 hr.1) hlt (by omega)
theorem var_bad (s : ByteArray) (p : Int) (h : p < 0 ∨ (s.size : Int) < p) (k : Nat) : nums_Var.f (k + 1) s p = some (0, 0, 10) := by
  unfold nums_Var.f
  by_cases h1 : p < 0
  · rw [if_pos h1]; rfl
  · rw [if_neg h1, decide_eq_true (by omega)]; rfl
theorem var_good (s : ByteArray) (p : Nat) (hs : s.size ≤ 1000000000000000) (hp : p ≤ s.size) (k : Nat) (hk : 42 ≤ k) : nums_Var.f k s p = some (rv p 10 0 ((nb s).drop p)) := by
  obtain ⟨k, rfl⟩ : ∃ m, k = m + 1 := ⟨k - 1, by omega⟩
  unfold nums_Var.f
  rw [if_neg (by omega), decide_eq_false (by omega)]
  simp only [nums_Var.j0]
  rw [if_neg (by decide)]
  exact var_loop s p hs hp 10 0 k (by decide) (by decide) (by decide) (by omega)

set_option maxHeartbeats 1000000 in
theorem bad10 (b s : ByteArray) (p v x m e : Int) (w : World) (hs : s.size = 10)
    (h0 : Aside0 (∀ w, Calls Try.prog 17 #[.int .u64 v] w (Txt s w)))
    (h1 : Aside0 (∀ w, Calls Try.prog 21 #[.string (s.extract 0 (s.size - 1)), .int .i64 0] w (Three 0 0 12 w)))
    (h3 : Aside0 (∀ w, Calls Try.prog 21 #[.string b, .int .i64 p] w (Three 0 0 e w))) (he : (e == 0) = false) (he' : (e != 0) = true) :
    Calls Try.prog 9 #[.string b, .int .i64 p, .int .u64 v] w (True1 w) := by
  have hs1 : ¬ (s.size : Int) < 1 := by omega
  have hs2 : ¬ (10 : Int) < (s.size : Int) := by omega
  have hs3 : ¬ (s.size : Int) < 10 := by omega
  clear hs
  go_enter Try.func9, Try.ntmps9
  go_wp2_with fail
  refine (h0.out _).mono ?_; rintro _ w1 ⟨rfl, hb1⟩
  go_wp2_with fail
  refine (h1.out _).mono ?_; rintro _ w2 ⟨rfl, ⟨n2, rfl⟩⟩
  go_wp2_with fail
  refine (h3.out _).mono ?_; rintro _ w3 ⟨rfl, ⟨n3, rfl⟩⟩
  go_wp2_with fail
  go_ret
  exact ⟨by simp, pw_below_drewN hb1 _⟩
set_option maxHeartbeats 1000000 in
theorem bad (b s : ByteArray) (p v x m e c : Int) (w : World) (hs0 : 1 ≤ s.size) (hs : s.size < 10) (hc : ((s[s.size - 1]'(by omega)).toNat : Int) = c) (c0 : 0 ≤ c) (c1 : c < 256)
    (h0 : Aside0 (∀ w, Calls Try.prog 17 #[.int .u64 v] w (Txt s w)))
    (h1 : Aside0 (∀ w, Calls Try.prog 21 #[.string (s.extract 0 (s.size - 1)), .int .i64 0] w (Three 0 0 12 w)))
    (h2 : Aside0 (∀ w, Calls Try.prog 21 #[.string (s.extract 0 (s.size - 1) ++ strOfNums [Go.bits .or .u8 c 128, 0]), .int .i64 0] w (Three 0 0 13 w)))
    (h3 : Aside0 (∀ w, Calls Try.prog 21 #[.string b, .int .i64 p] w (Three 0 0 e w))) (he : (e == 0) = false) (he' : (e != 0) = true) :
    Calls Try.prog 9 #[.string b, .int .i64 p, .int .u64 v] w (True1 w) := by
  have hs1 : ¬ (s.size : Int) < 1 := by omega
  have hs2 : ¬ (10 : Int) < (s.size : Int) := by omega
  have hs3 : (s.size : Int) < 10 := by omega
  go_enter Try.func9, Try.ntmps9
  go_wp2_with fail
  refine (h0.out _).mono ?_; rintro _ w1 ⟨rfl, hb1⟩
  go_wp2_with fail
  refine (h1.out _).mono ?_; rintro _ w2 ⟨rfl, ⟨n2, rfl⟩⟩
  go_wp2_with fail
  have e1 : IntKind.i64.wrap ((s.size : Int) - 1) = (s.size : Int) - 1 := by rw [IntKind.wrap_i64]; omega
  have hcv : ∀ nq, (convert 45 9 (.slice (some ⟨w1.heap.size, 0, none⟩) 2 2)).run Try.prog ((w1.drewN nq).alloc (.cells #[.int .u8 (Go.bits .or .u8 c 128), .int .u8 0] 5)) = .ok (.string (strOfNums [Go.bits .or .u8 c 128, 0])) ((w1.drewN nq).alloc (.cells #[.int .u8 (Go.bits .or .u8 c 128), .int .u8 0] 5)) := fun nq =>
    run_convert_bytes_arg _ 45 5 Try.underlying45 Try.underlying5 w1.heap.size 0 2 2 [Go.bits .or .u8 c 128, 0] rfl
      (fun i hi => by have : i = 0 ∨ i = 1 := by omega
                      rcases this with rfl | rfl <;> simp [World.cell?, World.alloc]) 9 Try.underlying9
  have hsum : (s.extract 0 (s.size - 1)).size + (strOfNums [Go.bits .or .u8 c 128, 0]).size ≤ 9223372036854775807 := by
    rw [son_size, ByteArray.size_extract]; simp only [List.length_cons, List.length_nil]; omega
  have hadd : ∀ W : World, (Op.stringOp .add (s.extract 0 (s.size - 1)) (strOfNums [Go.bits .or .u8 c 128, 0])).run Try.prog W = .ok (.string (s.extract 0 (s.size - 1) ++ strOfNums [Go.bits .or .u8 c 128, 0])) W := fun W => run_string_add_sum W _ _ hsum
  clear hsum
  go_region
  clear e1 hcv hadd
  go_wp2_with fail
  refine (h2.out _).mono ?_; rintro _ w4 ⟨rfl, ⟨n4, rfl⟩⟩
  go_wp2_with fail
  refine (h3.out _).mono ?_; rintro _ w3 ⟨rfl, ⟨n3, rfl⟩⟩
  go_wp2_with fail
  go_ret
  exact ⟨by simp, pw_below_drewN ((pw_below_drewN hb1 _).alloc (pw_below_drewN hb1 _).size _) _⟩
set_option maxHeartbeats 1000000 in
theorem good10 (b s t : ByteArray) (p v x m e : Int) (w : World) (hs : s.size = 10)
    (h0 : Aside0 (∀ w, Calls Try.prog 17 #[.int .u64 v] w (Txt s w)))
    (h1 : Aside0 (∀ w, Calls Try.prog 21 #[.string (s.extract 0 (s.size - 1)), .int .i64 0] w (Three 0 0 12 w)))
    (h3 : Aside0 (∀ w, Calls Try.prog 21 #[.string b, .int .i64 p] w (Three x m 0 w)))
    (hp : 0 ≤ p) (hm : p < m) (hb : m ≤ (b.size : Int)) (hb2 : (b.size : Int) ≤ 140737488351232)
    (h4 : Aside0 (∀ w, Calls Try.prog 17 #[.int .u64 x] w (Txt t w))) (ht : Aside0 ((b.extract p.toNat m.toNat).toList = t.toList)) :
    Calls Try.prog 9 #[.string b, .int .i64 p, .int .u64 v] w (True1 w) := by
  have hs1 : ¬ (s.size : Int) < 1 := by omega
  have hs2 : ¬ (10 : Int) < (s.size : Int) := by omega
  have hs3 : ¬ (s.size : Int) < 10 := by omega
  clear hs
  obtain ⟨P, rfl⟩ := Int.eq_ofNat_of_zero_le hp
  obtain ⟨M, rfl⟩ := Int.eq_ofNat_of_zero_le (show 0 ≤ m by omega)
  rw [Int.toNat_natCast, Int.toNat_natCast] at ht
  have hp2 : ¬ ((P : Int) < 0) := by omega
  have hm2 : ¬ ((M : Int) ≤ P) := by omega
  have hm3 : ¬ ((b.size : Int) < M) := by omega
  have k1 : P ≤ M := by omega
  have k2 : M ≤ b.size := by omega
  have k3 : (P : Int) ≤ M := by omega
  go_enter Try.func9, Try.ntmps9
  go_wp2_with fail
  refine (h0.out _).mono ?_; rintro _ w1 ⟨rfl, hb1⟩
  go_wp2_with fail
  refine (h1.out _).mono ?_; rintro _ w2 ⟨rfl, ⟨n2, rfl⟩⟩
  go_wp2_with fail
  refine (h3.out _).mono ?_; rintro _ w3 ⟨rfl, ⟨n3, rfl⟩⟩
  go_wp2_with fail
  go_region_with (go_at_call 17; refine (h4.out _).mono ?_; rintro _ w5 ⟨rfl, hb5⟩)
  all_goals (go_wp2_with fail)
  all_goals go_ret
  all_goals exact ⟨by simp [Act.put, ht.out], below_then (pw_below_drewN hb1 _) (pw_below_drewN hb1 _).size hb5⟩
set_option maxHeartbeats 1000000 in
theorem good (b s t : ByteArray) (p v x m e c : Int) (w : World) (hs0 : 1 ≤ s.size) (hs : s.size < 10) (hc : ((s[s.size - 1]'(by omega)).toNat : Int) = c) (c0 : 0 ≤ c) (c1 : c < 256)
    (h0 : Aside0 (∀ w, Calls Try.prog 17 #[.int .u64 v] w (Txt s w)))
    (h1 : Aside0 (∀ w, Calls Try.prog 21 #[.string (s.extract 0 (s.size - 1)), .int .i64 0] w (Three 0 0 12 w)))
    (h2 : Aside0 (∀ w, Calls Try.prog 21 #[.string (s.extract 0 (s.size - 1) ++ strOfNums [Go.bits .or .u8 c 128, 0]), .int .i64 0] w (Three 0 0 13 w)))
    (h3 : Aside0 (∀ w, Calls Try.prog 21 #[.string b, .int .i64 p] w (Three x m 0 w)))
    (hp : 0 ≤ p) (hm : p < m) (hb : m ≤ (b.size : Int)) (hb2 : (b.size : Int) ≤ 140737488351232)
    (h4 : Aside0 (∀ w, Calls Try.prog 17 #[.int .u64 x] w (Txt t w))) (ht : Aside0 ((b.extract p.toNat m.toNat).toList = t.toList)) :
    Calls Try.prog 9 #[.string b, .int .i64 p, .int .u64 v] w (True1 w) := by
  have hs1 : ¬ (s.size : Int) < 1 := by omega
  have hs2 : ¬ (10 : Int) < (s.size : Int) := by omega
  have hs3 : (s.size : Int) < 10 := by omega
  obtain ⟨P, rfl⟩ := Int.eq_ofNat_of_zero_le hp
  obtain ⟨M, rfl⟩ := Int.eq_ofNat_of_zero_le (show 0 ≤ m by omega)
  rw [Int.toNat_natCast, Int.toNat_natCast] at ht
  have hp2 : ¬ ((P : Int) < 0) := by omega
  have hm2 : ¬ ((M : Int) ≤ P) := by omega
  have hm3 : ¬ ((b.size : Int) < M) := by omega
  have k1 : P ≤ M := by omega
  have k2 : M ≤ b.size := by omega
  have k3 : (P : Int) ≤ M := by omega
  go_enter Try.func9, Try.ntmps9
  go_wp2_with fail
  refine (h0.out _).mono ?_; rintro _ w1 ⟨rfl, hb1⟩
  go_wp2_with fail
  refine (h1.out _).mono ?_; rintro _ w2 ⟨rfl, ⟨n2, rfl⟩⟩
  go_wp2_with fail
  have e1 : IntKind.i64.wrap ((s.size : Int) - 1) = (s.size : Int) - 1 := by rw [IntKind.wrap_i64]; omega
  have hcv : ∀ nq, (convert 45 9 (.slice (some ⟨w1.heap.size, 0, none⟩) 2 2)).run Try.prog ((w1.drewN nq).alloc (.cells #[.int .u8 (Go.bits .or .u8 c 128), .int .u8 0] 5)) = .ok (.string (strOfNums [Go.bits .or .u8 c 128, 0])) ((w1.drewN nq).alloc (.cells #[.int .u8 (Go.bits .or .u8 c 128), .int .u8 0] 5)) := fun nq =>
    run_convert_bytes_arg _ 45 5 Try.underlying45 Try.underlying5 w1.heap.size 0 2 2 [Go.bits .or .u8 c 128, 0] rfl
      (fun i hi => by have : i = 0 ∨ i = 1 := by omega
                      rcases this with rfl | rfl <;> simp [World.cell?, World.alloc]) 9 Try.underlying9
  have hsum : (s.extract 0 (s.size - 1)).size + (strOfNums [Go.bits .or .u8 c 128, 0]).size ≤ 9223372036854775807 := by
    rw [son_size, ByteArray.size_extract]; simp only [List.length_cons, List.length_nil]; omega
  have hadd : ∀ W : World, (Op.stringOp .add (s.extract 0 (s.size - 1)) (strOfNums [Go.bits .or .u8 c 128, 0])).run Try.prog W = .ok (.string (s.extract 0 (s.size - 1) ++ strOfNums [Go.bits .or .u8 c 128, 0])) W := fun W => run_string_add_sum W _ _ hsum
  clear hsum
  go_region
  clear e1 hcv hadd
  go_wp2_with fail
  refine (h2.out _).mono ?_; rintro _ w4 ⟨rfl, ⟨n4, rfl⟩⟩
  go_wp2_with fail
  refine (h3.out _).mono ?_; rintro _ w3 ⟨rfl, ⟨n3, rfl⟩⟩
  go_wp2_with fail
  go_region_with (go_at_call 17; refine (h4.out _).mono ?_; rintro _ w5 ⟨rfl, hb5⟩)
  all_goals (go_wp2_with fail)
  all_goals go_ret
  all_goals exact ⟨by simp [Act.put, ht.out], below_then (pw_below_drewN ((pw_below_drewN hb1 _).alloc (pw_below_drewN hb1 _).size _) _) (pw_below_drewN ((pw_below_drewN hb1 _).alloc (pw_below_drewN hb1 _).size _) _).size hb5⟩
theorem leb_split (v : Nat) : ∃ ys c, leb v = ys ++ [c] := by
  have h := leb_length_pos v
  exact ⟨(leb v).dropLast, (leb v).getLast (by intro e; rw [e] at h; simp at h), (List.dropLast_concat_getLast _).symm⟩
theorem rv_short (p : Int) : ∀ (d : Nat) (acc : Int) (u : Nat) (ys : List Int) (c : Int), leb u = ys ++ [c] → 1 ≤ d → d ≤ 10 → (d < 10 → u ≠ 0) → u * 128 ^ (10 - d) < 18446744073709551616 → rv p d acc ys = (0, 0, 12) := by
  intro d
  induction d with
  | zero => intro _ _ _ _ _ h; omega
  | succ d ih =>
    intro acc u ys c hl _ hd hu hr
    rw [show 10 - (d + 1) = 9 - d by omega] at *
    by_cases hs : u < 128
    · rw [leb_small hs] at hl
      cases ys with
      | nil => rfl
      | cons y ys => have := congrArg List.length hl; simp at this
    · rw [leb_big hs] at hl
      cases ys with
      | nil => exact absurd (List.cons.inj hl).2 (fun e => by have h2 := leb_length_pos (u / 128); rw [e] at h2; exact absurd h2 (by decide))
      | cons y ys =>
        simp only [List.cons_append, List.cons.injEq] at hl
        obtain ⟨rfl, hl⟩ := hl
        have h9 : d = 0 → u ≤ 1 := fun h => by subst h; omega
        have hd0 : d ≠ 0 := fun h => by have := h9 h; omega
        have hpow : 128 ^ (10 - d) = 128 ^ (9 - d) * 128 := by rw [show 10 - d = (9 - d) + 1 by omega, Nat.pow_succ]
        have hmul : u / 128 * 128 ^ (10 - d) ≤ u * 128 ^ (9 - d) := by
          rw [hpow, Nat.mul_comm (128 ^ (9 - d)), ← Nat.mul_assoc]
          exact Nat.mul_le_mul_right _ (Nat.div_mul_le_self u 128)
        simp only [rv]
        rw [if_neg (by omega), if_neg (by omega), if_neg (by omega)]
        exact ih _ (u / 128) ys c hl (by omega) (by omega) (fun _ => by omega) (by omega)
theorem rv_long (p : Int) : ∀ (d : Nat) (acc : Int) (u : Nat) (ys : List Int) (c : Int), leb u = ys ++ [c] → ys.length + 2 ≤ d → d ≤ 10 → (d < 10 → u ≠ 0) → rv p d acc (ys ++ [c % 128 + 128, 0]) = (0, 0, 13) := by
  intro d
  induction d with
  | zero => intro _ _ _ _ _ h; omega
  | succ d ih =>
    intro acc u ys c hl hlen hd hu
    by_cases hs : u < 128
    · rw [leb_small hs] at hl
      cases ys with
      | nil =>
        simp only [List.nil_append, List.cons.injEq, and_true] at hl
        subst hl
        obtain ⟨d, rfl⟩ : ∃ m, d = m + 1 := ⟨d - 1, by simp only [List.length_nil] at hlen; omega⟩
        simp only [List.length_nil] at hlen
        simp only [List.nil_append, rv]
        rw [if_neg (by omega), if_neg (by omega), if_neg (by omega)]
        split
        · omega
        · split
          · rfl
          · rename_i h; exact absurd ⟨by omega, trivial⟩ h
      | cons y ys => have := congrArg List.length hl; simp at this
    · rw [leb_big hs] at hl
      cases ys with
      | nil => exact absurd (List.cons.inj hl).2 (fun e => by have h2 := leb_length_pos (u / 128); rw [e] at h2; exact absurd h2 (by decide))
      | cons y ys =>
        simp only [List.cons_append, List.cons.injEq] at hl
        obtain ⟨rfl, hl⟩ := hl
        simp only [List.length_cons] at hlen
        simp only [List.cons_append, rv]
        rw [if_neg (by omega), if_neg (by omega), if_neg (by omega)]
        exact ih _ (u / 128) ys c hl (by omega) (by omega) (fun _ => by omega)
/-- What is read without an error is the form of what is told. -/
theorem rv_form (p : Int) : ∀ (d : Nat) (acc : Int) (xs : List Int), (∀ x ∈ xs, Byte x) → 1 ≤ d → d ≤ 10 → 0 ≤ acc → acc < 128 ^ (10 - d) →
    (∃ (u : Nat) (rest : List Int), (d < 10 → u ≠ 0) ∧ u * 128 ^ (10 - d) + acc.toNat < 18446744073709551616 ∧ xs = leb u ++ rest ∧ rv p d acc xs = (acc + (u : Int) * 128 ^ (10 - d), p + ((10 - d + (leb u).length : Nat) : Int), 0))
    ∨ ∃ e, e ≠ 0 ∧ rv p d acc xs = (0, 0, e) := by
  intro d
  induction d with
  | zero => intro _ _ _ h; omega
  | succ d ih =>
    intro acc xs hx _ hd h0 h1
    rw [show 10 - (d + 1) = 9 - d by omega] at *
    cases xs with
    | nil => exact .inr ⟨12, by decide, rfl⟩
    | cons c xs =>
      have hc := hx c List.mem_cons_self
      have hxs : ∀ x ∈ xs, Byte x := fun x h => hx x (List.mem_cons_of_mem _ h)
      by_cases q1 : d = 0 ∧ c > 1
      · exact .inr ⟨11, by decide, by simp only [rv]; rw [if_pos q1]⟩
      · by_cases q2 : d < 9 ∧ c = 0
        · exact .inr ⟨13, by decide, by simp only [rv]; rw [if_neg q1, if_pos q2]⟩
        · have h9 : 9 - d = 9 → c ≤ 1 := fun h => by omega
          have hr := part_range (9 - d) (by omega) c hc h9 acc h0 h1
          have hcc : 0 ≤ c ∧ c < 256 := hc
          by_cases q3 : c < 128
          · refine .inl ⟨c.toNat, xs, fun _ => by omega, ?_, ?_, ?_⟩
            · rw [show c % 128 = c by omega] at hr
              have := hr.2.1
              have e2 : c * 128 ^ (9 - d) = ((c.toNat * 128 ^ (9 - d) : Nat) : Int) := by
                rw [Int.natCast_mul, Int.toNat_of_nonneg hcc.1]; simp
              rw [e2] at this
              omega
            · rw [leb_small (by omega), List.singleton_append]; congr 1; omega
            · simp only [rv]
              rw [if_neg q1, if_neg q2, if_pos q3, leb_small (by omega), show c % 128 = c by omega, Int.toNat_of_nonneg hcc.1]
              congr 2
              simp only [List.length_cons, List.length_nil]
              omega
          · have hd0 : d ≠ 0 := fun h => by omega
            have hacc := hr.2.2 (by omega)
            have hih := ih (acc + c % 128 * 128 ^ (9 - d)) xs hxs (by omega) (by omega) (Int.add_nonneg h0 hr.1) (by rw [show 10 - d = 9 - d + 1 by omega]; exact hacc)
            have hrv : rv p (d + 1) acc (c :: xs) = rv p d (acc + c % 128 * 128 ^ (9 - d)) xs := by
              simp only [rv]; rw [if_neg q1, if_neg q2, if_neg q3]
            rw [hrv]
            rcases hih with ⟨u, rest, hu, hlt, rfl, he⟩ | h
            · refine .inl ⟨u * 128 + (c % 128).toNat, rest, fun _ => ?_, ?_, ?_, ?_⟩
              · have := hu (by omega); omega
              · have hpow : 128 ^ (10 - d) = 128 ^ (9 - d) * 128 := by rw [show 10 - d = (9 - d) + 1 by omega, Nat.pow_succ]
                have e2 : c % 128 * 128 ^ (9 - d) = (((c % 128).toNat * 128 ^ (9 - d) : Nat) : Int) := by
                  rw [Int.natCast_mul, Int.toNat_of_nonneg (by omega)]; simp
                rw [e2] at hlt
                rw [hpow] at hlt
                have e3 : (u * 128 + (c % 128).toNat) * 128 ^ (9 - d) = u * (128 ^ (9 - d) * 128) + (c % 128).toNat * 128 ^ (9 - d) := by
                  rw [Nat.add_mul, Nat.mul_assoc, Nat.mul_comm 128]
                rw [e3]
                omega
              · rw [leb_big (v := u * 128 + (c % 128).toNat) (by have := hu (by omega); omega), List.cons_append, show (u * 128 + (c % 128).toNat) / 128 = u by omega]
                congr 1
                omega
              · rw [he, leb_big (v := u * 128 + (c % 128).toNat) (by have := hu (by omega); omega), show (u * 128 + (c % 128).toNat) / 128 = u by omega]
                have hpow : (128 : Int) ^ (10 - d) = 128 ^ (9 - d) * 128 := by rw [show 10 - d = (9 - d) + 1 by omega, Int.pow_succ]
                refine Prod.ext ?_ (Prod.ext ?_ rfl)
                · show acc + c % 128 * 128 ^ (9 - d) + (u : Int) * 128 ^ (10 - d) = acc + ((u * 128 + (c % 128).toNat : Nat) : Int) * 128 ^ (9 - d)
                  rw [hpow, Int.natCast_add, Int.natCast_mul, Int.toNat_of_nonneg (show 0 ≤ c % 128 by omega)]
                  generalize (128 : Int) ^ (9 - d) = P
                  generalize c % 128 = A
                  grind
                · simp only [List.length_cons]
                  omega
            · exact .inr h
theorem walk (b : ByteArray) (p v : Int) (w : World) (w0 : b.size ≤ 140737488351232) (w1 : (Lit.int .i64 p).wf = true) (w2 : (Lit.int .u64 v).wf = true) :
    Calls Try.prog 9 #[.string b, .int .i64 p, .int .u64 v] w fun e w' => e = .returned (.bool true) ∧ Below w.heap.size w w' := by
  obtain ⟨v0, v1⟩ := wf_u64 w2
  obtain ⟨v, rfl⟩ := Int.eq_ofNat_of_zero_le v0
  have hv : v < 18446744073709551616 := by omega
  have h10 := leb_length_64 hv
  obtain ⟨ys, c, hys⟩ := leb_split v
  have hlen : (leb v).length = ys.length + 1 := by rw [hys]; simp
  have hcb : Byte c := leb_byte v c (by rw [hys]; simp)
  have hyb : ∀ y ∈ ys, Byte y := fun y hy => leb_byte v y (by rw [hys]; simp [hy])
  have hss : (strOfNums (leb v)).size = ys.length + 1 := by rw [son_size, hlen]
  have h0 : Aside0 (∀ w, Calls Try.prog 17 #[.int .u64 v] w (Txt (strOfNums (leb v)) w)) :=
    ⟨fun w => nums_PutVar.calls 60 v (strOfNums (leb v)) w (putVar_is v hv 60 (by omega))⟩
  have hcut : (strOfNums (leb v)).extract 0 ((strOfNums (leb v)).size - 1) = strOfNums ys := by
    apply nb_inj
    rw [nb_extract, nb_son (leb_byte v), nb_son hyb, hss, hys]
    simp
  have hvar : ∀ (s : ByteArray) (xs : List Int), nb s = xs → s.size ≤ 100 → nums_Var.f 60 s 0 = some (rv 0 10 0 xs) := fun s xs e hs => by
    have := var_good s 0 (by omega) (by omega) 60 (by omega)
    rw [e] at this
    simpa using this
  have hshort : nums_Var.f 60 (strOfNums ys) 0 = some (0, 0, 12) := by
    rw [hvar (strOfNums ys) ys (nb_son hyb) (by rw [son_size]; omega), rv_short 0 10 0 v ys c hys (by decide) (by decide) (fun h => absurd h (by decide)) (by simpa using hv)]
  have h1 : Aside0 (∀ w, Calls Try.prog 21 #[.string ((strOfNums (leb v)).extract 0 ((strOfNums (leb v)).size - 1)), .int .i64 0] w (Three 0 0 12 w)) := by
    rw [hcut]
    exact ⟨fun w => nums_Var.calls 60 (strOfNums ys) 0 0 0 12 w hshort⟩
  have hlastc : ∀ h : (strOfNums (leb v)).size - 1 < (strOfNums (leb v)).size, (((strOfNums (leb v))[(strOfNums (leb v)).size - 1]'h).toNat : Int) = c := fun h => by
    have := nb_getD (strOfNums (leb v)) ((strOfNums (leb v)).size - 1)
    rw [dif_pos h, nb_son (leb_byte v)] at this
    rw [← this, hss, hys]
    simp
  have h2 : (strOfNums (leb v)).size < 10 → Aside0 (∀ w, Calls Try.prog 21 #[.string ((strOfNums (leb v)).extract 0 ((strOfNums (leb v)).size - 1) ++ strOfNums [Go.bits .or .u8 c 128, 0]), .int .i64 0] w (Three 0 0 13 w)) := fun hlt => by
    obtain ⟨n, rfl⟩ := Int.eq_ofNat_of_zero_le hcb.1
    rw [hcut, or128 n (by have := hcb.2; omega), ← son_append]
    have hb2 : ∀ y ∈ ys ++ [((n % 128 + 128 : Nat) : Int), 0], Byte y := fun y hy => by
      simp only [List.mem_append, List.mem_cons, List.not_mem_nil, or_false] at hy
      rcases hy with h | rfl | rfl
      · exact hyb y h
      · exact ⟨by omega, by omega⟩
      · exact ⟨by decide, by decide⟩
    have hl := rv_long 0 10 0 v ys n hys (by omega) (by decide) (fun h => absurd h (by decide))
    rw [show (n : Int) % 128 + 128 = ((n % 128 + 128 : Nat) : Int) by omega] at hl
    have := hvar (strOfNums (ys ++ [((n % 128 + 128 : Nat) : Int), 0])) _ (nb_son hb2) (by rw [son_size]; simp; omega)
    rw [hl] at this
    exact ⟨fun w => nums_Var.calls 60 _ 0 0 0 13 w this⟩
  have hsz : ∀ n : Nat, n = (strOfNums (leb v)).size → 1 ≤ n ∧ n ≤ 10 := fun n h => by omega
  have bad : ∀ e : Int, e ≠ 0 → nums_Var.f 60 b p = some (0, 0, e) → Calls Try.prog 9 #[.string b, .int .i64 p, .int .u64 v] w (True1 w) := fun e he h => by
    have h3 : Aside0 (∀ w, Calls Try.prog 21 #[.string b, .int .i64 p] w (Three 0 0 e w)) := ⟨fun w => nums_Var.calls 60 b p 0 0 e w h⟩
    have e1 : (e == 0) = false := beq_eq_false_iff_ne.2 he
    have e2 : (e != 0) = true := bne_iff_ne.2 he
    rcases Nat.lt_or_ge (strOfNums (leb v)).size 10 with hlt | hge
    · exact bad b _ p v 0 0 e c w (by omega) hlt (hlastc _) hcb.1 hcb.2 h0 h1 (h2 hlt) h3 e1 e2
    · exact bad10 b _ p v 0 0 e w (by omega) h0 h1 h3 e1 e2
  by_cases hp : p < 0 ∨ (b.size : Int) < p
  · exact bad 10 (by decide) (var_bad b p hp 59)
  · obtain ⟨p, rfl⟩ := Int.eq_ofNat_of_zero_le (show 0 ≤ p by omega)
    have hg := var_good b p (by omega) (by omega) 60 (by omega)
    have hnb : ∀ x ∈ (nb b).drop p, Byte x := fun x hx => nb_byte (List.mem_of_mem_drop hx)
    rcases rv_form p 10 0 ((nb b).drop p) hnb (by decide) (by decide) (by decide) (by decide) with ⟨u, rest, _, hlt, hx, he⟩ | ⟨e, he, hr⟩
    · rw [he] at hg
      simp only [Nat.sub_self, Nat.pow_zero, Nat.mul_one, Int.toNat_zero, Nat.add_zero, Int.pow_zero, Int.mul_one, Int.zero_add, Nat.zero_add] at hg hlt
      have hul := leb_length_pos u
      have hxl := congrArg List.length hx
      simp only [List.length_drop, nb_length, List.length_append] at hxl
      have h3 : Aside0 (∀ w, Calls Try.prog 21 #[.string b, .int .i64 p] w (Three u (p + ((leb u).length : Int)) 0 w)) := ⟨fun w => nums_Var.calls 60 b p u _ 0 w hg⟩
      have h4 : Aside0 (∀ w, Calls Try.prog 17 #[.int .u64 u] w (Txt (strOfNums (leb u)) w)) := ⟨fun w => nums_PutVar.calls 60 u (strOfNums (leb u)) w (putVar_is u hlt 60 (by omega))⟩
      have ht : Aside0 ((b.extract (p : Int).toNat ((p : Int) + ((leb u).length : Int)).toNat).toList = (strOfNums (leb u)).toList) := by
        constructor
        congr 1
        apply nb_inj
        rw [nb_extract, nb_son (leb_byte u), Int.toNat_natCast, show ((p : Int) + ((leb u).length : Int)).toNat = p + (leb u).length by omega]
        rw [List.extract_eq_take_drop, hx, Nat.add_sub_cancel_left]
        simp
      rcases Nat.lt_or_ge (strOfNums (leb v)).size 10 with hlt | hge
      · exact good b _ _ p v u _ 0 c w (by omega) hlt (hlastc _) hcb.1 hcb.2 h0 h1 (h2 hlt) h3 (by omega) (by omega) (by omega) (by omega) h4 ht
      · exact good10 b _ _ p v u _ 0 w (by omega) h0 h1 h3 (by omega) (by omega) (by omega) (by omega) h4 ht
    · rw [hr] at hg
      exact bad e he hg
end Go.Proofs.Ythmcibahdbglnaa.Form
