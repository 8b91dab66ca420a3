/- Plain lemmas on numbers, bytes and texts: no program in sight. -/
import Derived.Laws.BytesArg
import Derived.Lib.Bytes
import Derived.Lib.Strings
import Derived.Laws.BitsAllLaws
import Derived.Laws.Bits64
import Derived.RowKit
set_option linter.unusedVariables false
set_option linter.unusedSimpArgs false
namespace Go.Proofs.YtcenfedmbicofaaDoor.Base
open Go Go.RowKit

/-! ### 1. Ranges and wraps -/
theorem wf_i64 {x : Int} (h : (Lit.int .i64 x).wf = true) : -9223372036854775808 ≤ x ∧ x ≤ 9223372036854775807 := by
  simp [Lit.wf, IntKind.min, IntKind.max, IntKind.signed, IntKind.bits] at h
  omega
theorem wf_u64 {x : Int} (h : (Lit.int .u64 x).wf = true) : 0 ≤ x ∧ x < 18446744073709551616 := by
  simp [Lit.wf, IntKind.min, IntKind.max, IntKind.signed, IntKind.bits] at h
  omega
theorem wf_u32 {x : Int} (h : (Lit.int .u32 x).wf = true) : 0 ≤ x ∧ x < 4294967296 := by
  simp [Lit.wf, IntKind.min, IntKind.max, IntKind.signed, IntKind.bits] at h
  omega
theorem wrap_in {x : Int} (h0 : -9223372036854775808 ≤ x) (h1 : x ≤ 9223372036854775807) : wrap64 x = x := by
  unfold wrap64
  omega
theorem u64_in {x : Int} (h0 : 0 ≤ x) (h1 : x < 18446744073709551616) : IntKind.u64.wrap x = x := by
  rw [IntKind.wrap_u64]; omega
theorem wrap_range (x : Int) : -9223372036854775808 ≤ wrap64 x ∧ wrap64 x ≤ 9223372036854775807 := by
  unfold wrap64
  omega

/-! ### 2. Texts as lists of bytes -/
theorem toList_data (s : ByteArray) : s.toList = s.data.toList := Go.Lib.toList_data s
theorem ext_toList {s t : ByteArray} (h : s.toList = t.toList) : s = t := by
  rw [toList_data, toList_data] at h
  cases s; cases t; simp_all
theorem toList_beq (s t : ByteArray) : (s.toList == t.toList) = decide (s = t) := by
  by_cases h : s = t
  · subst h; simp
  · simp only [h, decide_false]
    exact beq_eq_false_iff_ne.2 fun e => h (ext_toList e)
theorem son_list (xs : List Int) : (strOfNums xs).data.toList = xs.map fun n => UInt8.ofNat n.toNat := rfl
theorem son_size (xs : List Int) : (strOfNums xs).size = xs.length := strOfNums_size xs
theorem son_append (xs ys : List Int) : strOfNums (xs ++ ys) = strOfNums xs ++ strOfNums ys := by
  apply ext_toList
  simp [toList_data, ByteArray.data_append, strOfNums]
theorem son_nil : strOfNums [] = (⟨#[]⟩ : ByteArray) := rfl
/-- The bytes of a text, as numbers. -/
def nb (s : ByteArray) : List Int := s.data.toList.map fun x => (x.toNat : Int)
theorem nb_length (s : ByteArray) : (nb s).length = s.size := by unfold nb; rw [List.length_map]; rfl
theorem nb_append (s t : ByteArray) : nb (s ++ t) = nb s ++ nb t := by simp [nb, ByteArray.data_append]
def Byte (x : Int) : Prop := 0 ≤ x ∧ x < 256
theorem nb_byte {s : ByteArray} {x : Int} (h : x ∈ nb s) : Byte x := by
  simp only [nb, List.mem_map] at h
  obtain ⟨b, _, rfl⟩ := h
  have := b.toNat_lt
  exact ⟨by omega, by omega⟩
theorem nb_son {xs : List Int} (h : ∀ x ∈ xs, Byte x) : nb (strOfNums xs) = xs := by
  simp only [nb, son_list, List.map_map]
  rw [List.map_congr_left (g := id)]
  · simp
  · intro x hx
    obtain ⟨h0, h1⟩ := h x hx
    simp only [Function.comp, id]
    rw [UInt8.toNat_ofNat']
    omega
theorem son_nb (s : ByteArray) : strOfNums (nb s) = s := by
  apply ext_toList
  rw [toList_data, toList_data, son_list, nb, List.map_map]
  have : ((fun n : Int => UInt8.ofNat n.toNat) ∘ fun x : UInt8 => (x.toNat : Int)) = id := by
    funext x
    simp
  rw [this, List.map_id]
theorem nb_inj {s t : ByteArray} (h : nb s = nb t) : s = t := by rw [← son_nb s, ← son_nb t, h]
theorem nb_extract (s : ByteArray) (i j : Nat) : nb (s.extract i j) = (nb s).extract i j := by
  simp [nb, ByteArray.data_extract, List.map_drop, List.map_take]
theorem nb_getD (s : ByteArray) (i : Nat) : (nb s).getD i 0 = if h : i < s.size then ((s[i]'h).toNat : Int) else 0 := by
  by_cases h : i < s.size
  · rw [dif_pos h, List.getD_eq_getElem?_getD, List.getElem?_eq_getElem (by rw [nb_length]; exact h)]
    simp [nb]
    rfl
  · rw [dif_neg h, List.getD_eq_getElem?_getD, List.getElem?_eq_none (by rw [nb_length]; omega)]
    rfl
theorem getD_byte {xs : List Int} (h : ∀ x ∈ xs, Byte x) (i : Nat) : Byte (xs.getD i 0) := by
  rw [List.getD_eq_getElem?_getD]
  by_cases hi : i < xs.length
  · rw [List.getElem?_eq_getElem hi]; exact h _ (List.getElem_mem hi)
  · rw [List.getElem?_eq_none (by omega)]; exact ⟨by decide, by decide⟩
theorem nb_at_byte (s : ByteArray) (i : Nat) : Byte ((nb s).getD i 0) := getD_byte (fun _ h => nb_byte h) i

/-! ### 3. Numbers in bytes, the greatest first -/
def be (v : Int) : Nat → List Int
  | 0 => []
  | i + 1 => v / 256 ^ i % 256 :: be v i
theorem be_length (v : Int) (n : Nat) : (be v n).length = n := by
  induction n with
  | zero => rfl
  | succ n ih => simp [be, ih]
theorem be_byte (v : Int) (n : Nat) : ∀ x ∈ be v n, Byte x := by
  induction n with
  | zero => simp [be]
  | succ n ih =>
    intro x hx
    simp only [be, List.mem_cons] at hx
    rcases hx with rfl | hx
    · exact ⟨by omega, by omega⟩
    · exact ih x hx
def val (a : Int) (xs : List Int) : Int := xs.foldl (fun a x => a * 256 + x) a
theorem val_nil (a : Int) : val a [] = a := rfl
theorem val_cons (a x : Int) (xs : List Int) : val a (x :: xs) = val (a * 256 + x) xs := rfl
theorem val_snoc (a : Int) (xs : List Int) (x : Int) : val a (xs ++ [x]) = val a xs * 256 + x := by simp [val]
theorem val_split (a : Int) (xs : List Int) : val a xs = a * 256 ^ xs.length + val 0 xs := by
  induction xs generalizing a with
  | nil => simp [val]
  | cons x xs ih =>
    rw [val_cons, val_cons, ih, ih (0 * 256 + x), List.length_cons, Int.pow_succ]
    grind
theorem val_range {xs : List Int} (h : ∀ x ∈ xs, Byte x) : 0 ≤ val 0 xs ∧ val 0 xs < 256 ^ xs.length := by
  induction xs with
  | nil => simp [val]
  | cons x xs ih =>
    obtain ⟨i0, i1⟩ := ih fun y hy => h y (List.mem_cons_of_mem _ hy)
    obtain ⟨x0, x1⟩ := h x List.mem_cons_self
    rw [val_cons, val_split, List.length_cons, Int.pow_succ]
    have hp : (0 : Int) < 256 ^ xs.length := Int.pow_pos (by decide)
    have h0 := Int.mul_nonneg x0 (Int.le_of_lt hp)
    have h1 := Int.mul_le_mul_of_nonneg_right (show x ≤ 255 by omega) (Int.le_of_lt hp)
    constructor <;> grind
theorem emod_mul (v : Int) {p : Int} (hp : 0 < p) : v % (p * 256) = v % p + p * (v / p % 256) := by
  have h1 := Int.mul_ediv_add_emod v p
  have h2 := Int.mul_ediv_add_emod (v / p) 256
  have r0 := Int.emod_nonneg v (show p ≠ 0 by omega)
  have r1 := Int.emod_lt_of_pos v hp
  have q0 : 0 ≤ v / p % 256 := by omega
  have q1 : v / p % 256 ≤ 255 := by omega
  have m0 := Int.mul_nonneg (Int.le_of_lt hp) q0
  have m1 := Int.mul_le_mul_of_nonneg_left q1 (Int.le_of_lt hp)
  have e : v = (v % p + p * (v / p % 256)) + p * 256 * (v / p / 256) := by grind
  calc v % (p * 256) = ((v % p + p * (v / p % 256)) + p * 256 * (v / p / 256)) % (p * 256) := by rw [← e]
    _ = _ := by rw [Int.add_mul_emod_self_left, Int.emod_eq_of_lt (by omega) (by omega)]
theorem val_be (v : Int) (n : Nat) : val 0 (be v n) = v % 256 ^ n := by
  induction n with
  | zero => simp [be, val, Int.emod_one]
  | succ n ih =>
    rw [be, val_cons, val_split, be_length, ih]
    have hp : (0 : Int) < 256 ^ n := Int.pow_pos (by decide)
    have e := emod_mul v hp
    rw [Int.pow_succ, e]
    grind
theorem be_val {xs : List Int} (h : ∀ x ∈ xs, Byte x) : be (val 0 xs) xs.length = xs := by
  suffices H : ∀ a, 0 ≤ a → be (val a xs) xs.length = xs from H 0 (Int.le_refl _)
  induction xs with
  | nil => intro a _; rfl
  | cons x xs ih =>
    intro a ha
    obtain ⟨x0, x1⟩ := h x List.mem_cons_self
    have hb : ∀ y ∈ xs, Byte y := fun y hy => h y (List.mem_cons_of_mem _ hy)
    rw [val_cons, List.length_cons, be, ih hb (a * 256 + x) (by omega)]
    congr 1
    have hp : (0 : Int) < 256 ^ xs.length := Int.pow_pos (by decide)
    obtain ⟨r0, r1⟩ := val_range hb
    rw [val_split, Int.add_comm, Int.add_mul_ediv_right _ _ (by omega), Int.ediv_eq_zero_of_lt r0 r1]
    omega
end Go.Proofs.YtcenfedmbicofaaDoor.Base
