/- TreeKin: what the printed pure functions of tree answer. -/
import Derived.Test.YtibfbgjlieojfaaPTreeKinx1
import Derived.Test.YtibfbgjlieojfaaBase
import Derived.Laws.BitsAllLaws
import Derived.IntWalk
set_option linter.unusedSimpArgs false
set_option linter.unusedVariables false
namespace Go.Proofs.Ytibfbgjlieojfaa.Kin
open Go.RowKit Go.Proofs.Ytibfbgjlieojfaa.PTreeKin Go.Proofs.YtibfbgjlieojfaaW.PrintWords Go.Proofs.YtibfbgjlieojfaaW.PrintLast Go.Proofs.YtibfbgjlieojfaaW.PrintMore Go.Proofs.Ytibfbgjlieojfaa.Base

def vb (l i : Int) : Bool := decide (0 ≤ l ∧ l ≤ 62 ∧ 0 ≤ i ∧ i < 4611686018427387904 / 2 ^ l.toNat)
theorem shr_in {x l : Int} (h : l ≤ 62) : shr .i64 x l = x / 2 ^ l.toNat := by
  unfold shr
  rw [Nat.min_eq_left (by show l.toNat ≤ 64; omega)]
theorem valid_f (l i : Int) : tree_Valid.f l i = some (vb l i) := by
  unfold tree_Valid.f
  by_cases h0 : l ≥ 0
  · rw [if_pos h0]
    by_cases h1 : l ≤ 62
    · rw [if_pos h1]
      by_cases h2 : i ≥ 0
      · rw [if_pos h2, if_pos (by omega), shr_in h1]
        congr 1
        unfold vb
        rw [decide_eq_decide]
        exact ⟨fun h => ⟨h0, h1, h2, h⟩, fun h => h.2.2.2⟩
      · rw [if_neg h2]; congr 1; exact (decide_eq_false (by omega)).symm
    · rw [if_neg h1]; congr 1; exact (decide_eq_false (by omega)).symm
  · rw [if_neg h0]; congr 1; exact (decide_eq_false (by omega)).symm
theorem lvalid_f (l i : Int) : annalslaw5_valid.f l i = some (vb l i) := by
  unfold annalslaw5_valid.f
  by_cases h0 : l ≥ 0
  · rw [if_pos h0]
    by_cases h1 : l ≤ 62
    · have hw : IntKind.u64.wrap l = l := u64_in (by omega) (by omega)
      rw [if_pos h1, hw]
      by_cases h2 : i ≥ 0
      · rw [if_pos h2, if_pos (by omega), shr_in h1]
        congr 1
        unfold vb
        rw [decide_eq_decide]
        exact ⟨fun h => ⟨h0, h1, h2, h⟩, fun h => h.2.2.2⟩
      · rw [if_neg h2]; congr 1; exact (decide_eq_false (by omega)).symm
    · rw [if_neg h1]; congr 1; exact (decide_eq_false (by omega)).symm
  · rw [if_neg h0]; congr 1; exact (decide_eq_false (by omega)).symm
def ok (p j : Nat) : Prop := p ≤ 62 ∧ (j + 1) * 2 ^ p ≤ 4611686018427387904
theorem vb_iff (l i : Int) : vb l i = true ↔ ∃ p j : Nat, l = p ∧ i = j ∧ ok p j := by
  unfold vb
  rw [decide_eq_true_iff]
  constructor
  · rintro ⟨h1, h2, h3, h4⟩
    refine ⟨l.toNat, i.toNat, by omega, by omega, by omega, ?_⟩
    rw [← Nat.le_div_iff_mul_le (Nat.two_pow_pos _)]
    have : ((i.toNat : Nat) : Int) < ((4611686018427387904 / 2 ^ l.toNat : Nat) : Int) := by
      rw [Int.natCast_ediv, Int.natCast_pow]
      rw [Int.toNat_of_nonneg h3]
      exact h4
    omega
  · rintro ⟨p, j, rfl, rfl, hp, hj⟩
    rw [← Nat.le_div_iff_mul_le (Nat.two_pow_pos _)] at hj
    refine ⟨by omega, by omega, by omega, ?_⟩
    have : ((j : Nat) : Int) < ((4611686018427387904 / 2 ^ p : Nat) : Int) := by omega
    rw [Int.natCast_ediv, Int.natCast_pow] at this
    rw [Int.toNat_natCast]
    exact this
theorem vb_nat {p j : Nat} (h : ok p j) : vb (p : Int) (j : Int) = true := (vb_iff _ _).2 ⟨p, j, rfl, rfl, h⟩
theorem kin_yes {l i m j : Int} (h1 : vb l i = true) (h2 : vb m j = true) : tree_kin.f l i m j = some (m, j, 0) := by
  unfold tree_kin.f
  rw [valid_f, valid_f, h1, h2]; rfl
theorem kin_no {l i m j : Int} (h1 : vb l i = true) (h2 : vb m j = false) : tree_kin.f l i m j = some (0, 0, 50) := by
  unfold tree_kin.f
  rw [valid_f, valid_f, h1, h2]; rfl
theorem kin_bad {l i m j : Int} (h1 : vb l i = false) : tree_kin.f l i m j = some (0, 0, 50) := by
  unfold tree_kin.f
  rw [valid_f, h1]; rfl
theorem bad {l i : Int} (h : vb l i = false) : tree_Span.f l i = some (0, 0, 50) ∧ tree_Left.f l i = some (0, 0, 50) ∧ tree_Right.f l i = some (0, 0, 50) ∧ tree_Parent.f l i = some (0, 0, 50) ∧ tree_Sibling.f l i = some (0, 0, 50) := by
  refine ⟨?_, ?_, ?_, ?_, ?_⟩
  · unfold tree_Span.f; rw [valid_f, h]; rfl
  · unfold tree_Left.f; rw [kin_bad h]; rfl
  · unfold tree_Right.f; rw [kin_bad h]; rfl
  · unfold tree_Parent.f; rw [kin_bad h]; rfl
  · unfold tree_Sibling.f; rw [kin_bad h]; rfl
theorem ok_lt {p j : Nat} (h : ok p j) : j < 4611686018427387904 := by
  have := Nat.le_trans (Nat.le_mul_of_pos_right (j + 1) (Nat.two_pow_pos p)) h.2
  omega
theorem w64 {x : Int} (h0 : -9223372036854775808 ≤ x) (h1 : x ≤ 9223372036854775807) : wrap64 x = x := by unfold wrap64; omega
theorem span_f {p j : Nat} (h : ok p j) : tree_Span.f p j = some (((j * 2 ^ p : Nat) : Int), (((j + 1) * 2 ^ p : Nat) : Int), 0) := by
  have hj := ok_lt h
  obtain ⟨h1, h2⟩ := h
  unfold tree_Span.f
  rw [valid_f, vb_nat ⟨h1, h2⟩, Option.bind_some, if_pos rfl, if_pos (by omega), w64 (by omega) (by omega)]
  have hm : min (p : Int).toNat IntKind.i64.bits = p := by rw [Int.toNat_natCast]; exact Nat.min_eq_left (by show p ≤ 64; omega)
  have hle : j * 2 ^ p ≤ (j + 1) * 2 ^ p := Nat.mul_le_mul_right _ (by omega)
  have e1 : shl .i64 (j : Int) (p : Int) = ((j * 2 ^ p : Nat) : Int) := by
    unfold shl
    rw [hm, show (j : Int) * 2 ^ p = ((j * 2 ^ p : Nat) : Int) by rw [Int.natCast_mul, Int.natCast_pow]; rfl]
    exact IntWalk.i64_in _ (by omega)
  have e2 : shl .i64 ((j : Int) + 1) (p : Int) = (((j + 1) * 2 ^ p : Nat) : Int) := by
    unfold shl
    rw [hm, show ((j : Int) + 1) * 2 ^ p = (((j + 1) * 2 ^ p : Nat) : Int) by rw [Int.natCast_mul, Int.natCast_pow]; rfl]
    exact IntWalk.i64_in _ (by omega)
  rw [e1, e2]
theorem pow_up (p : Nat) : 2 ^ (p + 1) = 2 * 2 ^ p := by rw [Nat.pow_succ, Nat.mul_comm]
theorem ok_left {p j : Nat} (h : ok (p + 1) j) : ok p (2 * j) ∧ ok p (2 * j + 1) := by
  obtain ⟨h1, h2⟩ := h
  rw [pow_up, ← Nat.mul_assoc] at h2
  have e : (2 * j + 1 + 1) * 2 ^ p = (j + 1) * 2 * 2 ^ p := by congr 1; omega
  have hp := Nat.two_pow_pos p
  refine ⟨⟨by omega, ?_⟩, by omega, by rw [e]; exact h2⟩
  have : (2 * j + 1) * 2 ^ p ≤ (j + 1) * 2 * 2 ^ p := Nat.mul_le_mul_right _ (by omega)
  omega
theorem ok_up {p j : Nat} (h : ok p j) (hp : p < 62) : ok (p + 1) (j / 2) ∧ ok p (j ^^^ 1) := by
  obtain ⟨h1, h2⟩ := h
  have e : 4611686018427387904 = 2 ^ (61 - p) * 2 * 2 ^ p := by
    rw [Nat.mul_assoc, ← pow_up, ← Nat.pow_add, show 61 - p + (p + 1) = 62 by omega]
  have hpos := Nat.two_pow_pos p
  have hk : j + 1 ≤ 2 ^ (61 - p) * 2 := by
    rw [e] at h2
    exact Nat.le_of_mul_le_mul_right h2 hpos
  have hx : (j ^^^ 1) / 2 = j / 2 := by
    rw [Nat.xor_div_two]
    simp
  refine ⟨⟨by omega, ?_⟩, by omega, ?_⟩
  · rw [e, pow_up, ← Nat.mul_assoc]
    exact Nat.mul_le_mul_right _ (Nat.mul_le_mul_right _ (by omega))
  · rw [e]
    exact Nat.mul_le_mul_right _ (by omega)
theorem xor_one (j : Nat) (h : j < 4611686018427387904) : Go.bits .xor .i64 (j : Int) 1 = ((j ^^^ 1 : Nat) : Int) := by
  have hx : j ^^^ 1 < 2 ^ 62 := Nat.xor_lt_two_pow (by omega) (by omega)
  have ho : ∀ a : Nat, a < 18446744073709551616 → (BitVec.ofInt 64 (a : Int)).toNat = a := fun a ha => by
    rw [BitVec.toNat_ofInt]; omega
  show IntKind.i64.wrap ((BitVec.ofInt 64 (j : Int) ^^^ BitVec.ofInt 64 ((1 : Nat) : Int)).toNat : Int) = _
  rw [BitVec.toNat_xor, ho j (by omega), ho 1 (by omega)]
  exact IntWalk.i64_in _ (by omega)
theorem left_f {p j : Nat} (h : ok (p + 1) j) : tree_Left.f ((p + 1 : Nat) : Int) (j : Int) = some ((p : Int), ((2 * j : Nat) : Int), 0) := by
  have := ok_lt h
  have hp := h.1
  unfold tree_Left.f
  rw [w64 (by omega) (by omega), w64 (by omega) (by omega), show ((p + 1 : Nat) : Int) - 1 = (p : Int) by omega, show 2 * (j : Int) = ((2 * j : Nat) : Int) by omega,
    kin_yes (vb_nat h) (vb_nat (ok_left h).1)]
  rfl
theorem right_f {p j : Nat} (h : ok (p + 1) j) : tree_Right.f ((p + 1 : Nat) : Int) (j : Int) = some ((p : Int), ((2 * j + 1 : Nat) : Int), 0) := by
  have := ok_lt h
  have hp := h.1
  unfold tree_Right.f
  rw [w64 (x := ((p + 1 : Nat) : Int) - 1) (by omega) (by omega), w64 (x := 2 * (j : Int)) (by omega) (by omega), w64 (by omega) (by omega), show ((p + 1 : Nat) : Int) - 1 = (p : Int) by omega, show 2 * (j : Int) + 1 = ((2 * j + 1 : Nat) : Int) by omega,
    kin_yes (vb_nat h) (vb_nat (ok_left h).2)]
  rfl
theorem zero_f {j : Nat} (h : ok 0 j) : tree_Left.f 0 (j : Int) = some (0, 0, 50) ∧ tree_Right.f 0 (j : Int) = some (0, 0, 50) := by
  have hv : vb 0 (j : Int) = true := vb_nat (p := 0) h
  have hb : ∀ x, vb (wrap64 (0 - 1)) x = false := fun x => decide_eq_false (by rw [w64 (by omega) (by omega)]; omega)
  refine ⟨?_, ?_⟩
  · unfold tree_Left.f; rw [kin_no hv (hb _)]; rfl
  · unfold tree_Right.f; rw [kin_no hv (hb _)]; rfl
theorem parent_f {p j : Nat} (h : ok p j) (hp : p < 62) : tree_Parent.f (p : Int) (j : Int) = some (((p + 1 : Nat) : Int), ((j / 2 : Nat) : Int), 0) := by
  have := ok_lt h
  unfold tree_Parent.f
  have e : Int.tdiv (j : Int) 2 = ((j / 2 : Nat) : Int) := rfl
  rw [e, w64 (by omega) (by omega), w64 (by omega) (by omega), show (p : Int) + 1 = ((p + 1 : Nat) : Int) by omega, kin_yes (vb_nat h) (vb_nat (ok_up h hp).1)]
  rfl
theorem sibling_f {p j : Nat} (h : ok p j) (hp : p < 62) : tree_Sibling.f (p : Int) (j : Int) = some ((p : Int), ((j ^^^ 1 : Nat) : Int), 0) := by
  unfold tree_Sibling.f
  rw [xor_one j (ok_lt h), kin_yes (vb_nat h) (vb_nat (ok_up h hp).2)]
  rfl
theorem top_f {j : Nat} (h : ok 62 j) : tree_Parent.f 62 (j : Int) = some (0, 0, 50) ∧ tree_Sibling.f 62 (j : Int) = some (0, 0, 50) := by
  have hj : j = 0 := by have := h.2; omega
  subst hj
  have hv : vb 62 ((0 : Nat) : Int) = true := vb_nat (p := 62) h
  refine ⟨?_, ?_⟩
  · unfold tree_Parent.f
    rw [kin_no hv (decide_eq_false (by rw [w64 (by omega) (by omega)]; omega))]; rfl
  · unfold tree_Sibling.f
    rw [xor_one 0 (by omega), kin_no hv (by decide)]; rfl
theorem xor_facts (j : Nat) : (j ^^^ 1) / 2 = j / 2 ∧ (j ^^^ 1) ≠ j ∧ (2 * j) ^^^ 1 = 2 * j + 1 ∧ (2 * j + 1) ^^^ 1 = 2 * j := by
  refine ⟨by rw [Nat.xor_div_two]; simp, ?_, ?_, ?_⟩
  · intro e
    have := congrArg (fun x => x ^^^ j) e
    simp [Nat.xor_comm, ← Nat.xor_assoc] at this
  · have h1 : ((2 * j) ^^^ 1) / 2 = j := by rw [Nat.xor_div_two]; simp
    have h2 : ((2 * j) ^^^ 1) % 2 = 1 := by simp
    omega
  · have h1 : ((2 * j + 1) ^^^ 1) / 2 = j := by rw [Nat.xor_div_two]; simp; omega
    have h2 : ((2 * j + 1) ^^^ 1) % 2 = 0 := by have := Nat.xor_mod_two_pow (a := 2 * j + 1) (b := 1) (n := 1); simp at this; exact this
    omega
end Go.Proofs.Ytibfbgjlieojfaa.Kin
