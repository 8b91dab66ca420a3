/- Folding the pieces' roots gives the root by halves: in plain terms. -/
import Derived.Test.YtcenfedmbicofaaDoorFold
import Derived.Test.YtcenfedmbicofaaDoorCovP
import Derived.Test.YtcenfedmbicofaaDoorMthPlain
set_option linter.unusedVariables false
set_option linter.unusedSimpArgs false
namespace Go.Proofs.YtcenfedmbicofaaDoor.Folds
open Go.RowKit Go.Proofs.YtcenfedmbicofaaDoor.Base Go.Proofs.YtcenfedmbicofaaDoor.Cov Go.Proofs.YtcenfedmbicofaaDoor.TreeHash Go.Proofs.YtcenfedmbicofaaDoor.Fold Go.Proofs.YtcenfedmbicofaaDoor.Mth

/-- The root of hashes by halves. -/
def rt (k : Int) (ss : List ByteArray) : ByteArray := tr (emptyH k) id (nodeH k) ss
theorem rt_nil (k : Int) : rt k [] = emptyH k := tr_nil _ _ _
theorem rt_one (k : Int) (d : ByteArray) : rt k [d] = d := tr_one _ _ _ _
theorem rt_node (k : Int) (l : List ByteArray) (h : 2 ≤ l.length) : rt k l = nodeH k (rt k (l.take (sp l.length))) (rt k (l.drop (sp l.length))) := tr_node _ _ _ l h
def part (ss : List ByteArray) (x : Nat × Nat) : List ByteArray := (ss.drop (x.2 * 2 ^ x.1)).take (2 ^ x.1)
def roots (k : Int) (ss : List ByteArray) (l : List (Nat × Nat)) : List ByteArray := l.map fun x => rt k (part ss x)
theorem folds_at (k : Int) (ss : List ByteArray) (r : Nat) : ∀ (p m : Nat), 0 < r → m ≤ 62 → 2 ^ m ∣ p → r ≤ 2 ^ m → p + r ≤ ss.length → p + r ≤ 4611686018427387904 →
    foldH k (roots k ss (greedy p (p + r))) = rt k ((ss.drop p).take r) ∧ roots k ss (greedy p (p + r)) ≠ [] := by
  induction r using Nat.strongRecOn with
  | _ r ih =>
    intro p m h0 hm hd hr hl hh
    obtain ⟨j, hj1, hj2⟩ : ∃ j, 2 ^ j ≤ r ∧ r < 2 ^ (j + 1) := ⟨r.log2, (Nat.log2_eq_iff (by omega)).1 rfl⟩
    have hjm : j ≤ m := by
      rcases Nat.lt_or_ge m j with h | h
      · have := Nat.pow_le_pow_right (show 0 < 2 by decide) (show m + 1 ≤ j by omega)
        rw [Nat.pow_succ] at this
        have := Nat.two_pow_pos m
        omega
      · exact h
    have hdj : 2 ^ j ∣ p := Nat.dvd_trans (Nat.pow_dvd_pow 2 hjm) hd
    have hp := Nat.two_pow_pos j
    have hs : 2 ^ (j + 1) = 2 * 2 ^ j := by rw [Nat.pow_succ, Nat.mul_comm]
    have hlev : lev p (p + r) = j := lev_eq (by omega) hh ⟨by omega, hdj, by omega⟩ (fun h => by have := h.2.2; omega)
    have hg : greedy p (p + r) = (j, p / 2 ^ j) :: greedy (p + 2 ^ j) (p + r) := by rw [greedy_step (by omega), hlev]
    have hpart : part ss (j, p / 2 ^ j) = (ss.drop p).take (2 ^ j) := by unfold part; rw [Nat.div_mul_cancel hdj]
    rw [hg]
    refine ⟨?_, by simp [roots]⟩
    rcases Nat.eq_or_lt_of_le hj1 with he | he
    · rw [greedy_end (by omega)]
      show foldH k [rt k (part ss (j, p / 2 ^ j))] = _
      rw [foldH_one, hpart, he]
    · obtain ⟨i1, i2⟩ := ih (r - 2 ^ j) (by omega) (p + 2 ^ j) j (by omega) (by omega) (Nat.dvd_add hdj (Nat.dvd_refl _)) (by omega) (by omega) (by omega)
      rw [show p + 2 ^ j + (r - 2 ^ j) = p + r by omega] at i1 i2
      have hlen : ((ss.drop p).take r).length = r := by rw [List.length_take, List.length_drop]; omega
      have hsp : sp r = 2 ^ j := (sp_of he (by omega)).symm
      rw [rt_node k _ (by omega), hlen, hsp]
      show foldH k (rt k (part ss (j, p / 2 ^ j)) :: roots k ss (greedy (p + 2 ^ j) (p + r))) = _
      have e1 : ((ss.drop p).take r).take (2 ^ j) = (ss.drop p).take (2 ^ j) := by rw [List.take_take, Nat.min_eq_left hj1]
      have e2 : ((ss.drop p).take r).drop (2 ^ j) = (ss.drop (p + 2 ^ j)).take (r - 2 ^ j) := by rw [List.drop_take, List.drop_drop]
      rw [e1, e2, ← i1, ← hpart]
      match hc : roots k ss (greedy (p + 2 ^ j) (p + r)), i2 with
      | [], h => exact absurd rfl h
      | y :: l, _ => exact foldH_cons _ _ _ _
theorem folds (k : Int) (ss : List ByteArray) (h : ss.length ≤ 2000) : foldH k (roots k ss (greedy 0 ss.length)) = rt k ss := by
  by_cases h0 : ss.length = 0
  · obtain rfl : ss = [] := List.eq_nil_of_length_eq_zero h0
    rw [rt_nil]
    show foldH k (roots k [] (greedy 0 0)) = _
    rw [greedy_end (by omega)]; rfl
  · have := (folds_at k ss ss.length 0 62 (by omega) (by omega) (Nat.dvd_zero _) (by rw [← big62]; omega) (by omega) (by omega)).1
    rw [Nat.zero_add] at this
    rw [this, List.drop_zero, List.take_length]
theorem roots_empty (k : Int) (ss : List ByteArray) (h : ss.length ≤ 2000) : (roots k ss (greedy 0 ss.length)).length = 0 ↔ ss.length = 0 := by
  constructor
  · intro hr
    rcases Nat.eq_zero_or_pos ss.length with h0 | h0
    · exact h0
    · exfalso
      have := (folds_at k ss ss.length 0 62 h0 (by omega) (Nat.dvd_zero _) (by rw [← big62]; omega) (by omega) (by omega)).2
      rw [Nat.zero_add] at this
      exact this (List.eq_nil_of_length_eq_zero hr)
  · intro h0
    rw [h0, greedy_end (by omega)]; rfl
/-- A root is no longer than the longest of its texts, or than a hash. -/
theorem rt_fit (k : Int) (M : Nat) (hM : 32 ≤ M) (n : Nat) : ∀ ss : List ByteArray, ss.length ≤ n → (∀ s ∈ ss, s.size ≤ M) → (rt k ss).size ≤ M := by
  intro ss hl hs
  have hw := (ShaDig.wid_le k).2
  by_cases h2 : 2 ≤ ss.length
  · rw [rt_node k ss h2, nodeH_size]; omega
  · match ss, h2 with
    | [], _ => rw [rt_nil, emptyH_size]; omega
    | [d], _ => rw [rt_one]; exact hs d (by simp)
    | a :: b :: r, h => exact absurd (by simp) h
end Go.Proofs.YtcenfedmbicofaaDoor.Folds
