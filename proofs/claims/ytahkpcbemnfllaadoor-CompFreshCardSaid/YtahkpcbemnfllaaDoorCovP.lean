/- Cover: the greedy pieces of a range, in plain numbers. -/
import Derived.Test.YtahkpcbemnfllaaDoorNums
set_option linter.unusedVariables false
set_option linter.unusedSimpArgs false
namespace Go.Proofs.YtahkpcbemnfllaaDoor.Cov
open Go.RowKit Go.Proofs.YtahkpcbemnfllaaDoor.Base Go.Proofs.YtahkpcbemnfllaaDoor.Nums

theorem dvd_ctz {n : Nat} (h : n ≠ 0) (k : Nat) : 2 ^ k ∣ n ↔ k ≤ ctz n := by
  obtain ⟨q, hq, ho⟩ := ctz_spec n h
  constructor
  · intro hd
    rcases Nat.lt_or_ge (ctz n) k with hlt | hge
    · exfalso
      have h0 : 2 ^ (ctz n + 1) ∣ n := Nat.dvd_trans (Nat.pow_dvd_pow 2 hlt) hd
      have h1 : 2 ^ ctz n * 2 ∣ 2 ^ ctz n * q := by rw [← hq, ← Nat.pow_succ]; exact h0
      have h2 := Nat.dvd_of_mul_dvd_mul_left (Nat.two_pow_pos _) h1
      omega
    · exact hge
  · intro hk
    exact Nat.dvd_trans (Nat.pow_dvd_pow 2 hk) ⟨q, hq⟩
theorem pow_le_nbits (n k : Nat) : 2 ^ k ≤ n ↔ k < nbits n := by
  constructor
  · intro h
    rcases Nat.lt_or_ge k (nbits n) with h1 | h1
    · exact h1
    · have := nbits_lt n
      have := Nat.pow_le_pow_right (show 0 < 2 by decide) h1
      omega
  · intro h
    have hn : n ≠ 0 := by rintro rfl; rw [nbits_zero] at h; omega
    have := nbits_le hn
    have := Nat.pow_le_pow_right (show 0 < 2 by decide) (show k ≤ nbits n - 1 by omega)
    omega
theorem big62 : (4611686018427387904 : Nat) = 2 ^ 62 := by decide
def zs (p : Nat) : Nat := if p = 0 then 63 else ctz p
def lev (p hi : Nat) : Nat := min (min (zs p) (nbits (hi - p) - 1)) 62
def Good (p hi k : Nat) : Prop := k ≤ 62 ∧ 2 ^ k ∣ p ∧ 2 ^ k ≤ hi - p
theorem good_iff {p hi k : Nat} (hp : p < hi) (hh : hi ≤ 4611686018427387904) : Good p hi k ↔ k ≤ lev p hi := by
  have hb := pow_le_nbits (hi - p) 0
  rw [Nat.pow_zero] at hb
  have hb := hb.1 (by omega)
  unfold Good lev zs
  rw [pow_le_nbits]
  by_cases h0 : p = 0
  · rw [if_pos h0]
    constructor
    · rintro ⟨h1, _, h3⟩; omega
    · intro h
      exact ⟨by omega, by rw [h0]; exact Nat.dvd_zero _, by omega⟩
  · rw [if_neg h0, dvd_ctz h0]
    omega
theorem lev_good {p hi : Nat} (hp : p < hi) (hh : hi ≤ 4611686018427387904) : Good p hi (lev p hi) := (good_iff hp hh).2 (Nat.le_refl _)
theorem lev_62 (p hi : Nat) : lev p hi ≤ 62 := Nat.min_le_right _ _
theorem lev_eq {p hi k : Nat} (hp : p < hi) (hh : hi ≤ 4611686018427387904) (hg : Good p hi k) (hn : ¬ Good p hi (k + 1)) : lev p hi = k := by
  rw [good_iff hp hh] at hg hn
  omega
theorem good_lt {p hi k : Nat} (h : Good p hi k) : p + 2 ^ k ≤ hi := by
  have := Nat.two_pow_pos k
  have := h.2.2
  omega
def greedy (p hi : Nat) : List (Nat × Nat) := if h : p < hi then (lev p hi, p / 2 ^ lev p hi) :: greedy (p + 2 ^ lev p hi) hi else []
termination_by hi - p
decreasing_by have := Nat.two_pow_pos (lev p hi); omega
theorem greedy_end {p hi : Nat} (h : ¬ p < hi) : greedy p hi = [] := by rw [greedy, dif_neg h]
theorem greedy_step {p hi : Nat} (h : p < hi) : greedy p hi = (lev p hi, p / 2 ^ lev p hi) :: greedy (p + 2 ^ lev p hi) hi := by rw [greedy, dif_pos h]
theorem lev_next {p hi : Nat} (hp : p < hi) (hh : hi ≤ 4611686018427387904) : p + 2 ^ lev p hi ≤ hi := good_lt (lev_good hp hh)
theorem lev_pos (p hi : Nat) : 0 < 2 ^ lev p hi := Nat.two_pow_pos _
theorem lev_mul {p hi : Nat} (hp : p < hi) (hh : hi ≤ 4611686018427387904) : p / 2 ^ lev p hi * 2 ^ lev p hi = p := Nat.div_mul_cancel (lev_good hp hh).2.1

/-- What the pieces are, one by one. -/
inductive Tiles : Nat → Nat → List (Nat × Nat) → Prop
  | done (p : Nat) : Tiles p p []
  | step {p hi k j : Nat} {l : List (Nat × Nat)} (e : p = j * 2 ^ k) (hk : k ≤ 62) (ht : Tiles (p + 2 ^ k) hi l) : Tiles p hi ((k, j) :: l)
theorem greedy_tiles {p hi : Nat} (hp : p ≤ hi) (hh : hi ≤ 4611686018427387904) : Tiles p hi (greedy p hi) := by
  induction h : hi - p using Nat.strongRecOn generalizing p with
  | _ n ih =>
    by_cases hlt : p < hi
    · rw [greedy_step hlt]
      have h1 := lev_next hlt hh
      have h2 := lev_pos p hi
      exact Tiles.step (lev_mul hlt hh).symm (lev_62 _ _) (ih (hi - (p + 2 ^ lev p hi)) (by omega) h1 rfl)
    · obtain rfl : p = hi := by omega
      rw [greedy_end hlt]
      exact Tiles.done p
theorem Tiles.le {p hi : Nat} {l : List (Nat × Nat)} (h : Tiles p hi l) : p ≤ hi := by
  induction h with
  | done => exact Nat.le_refl _
  | @step p hi k j l e hk ht ih => have := Nat.two_pow_pos k; omega
theorem Tiles.len {p hi : Nat} {l : List (Nat × Nat)} (h : Tiles p hi l) : l.length ≤ hi - p := by
  induction h with
  | done => simp
  | @step p hi k j l e hk ht ih =>
    have := Nat.two_pow_pos k
    have := ht.le
    rw [List.length_cons]; omega

/-! ### Digits -/
def dg : Nat → Nat → List Nat
  | 0, _ => []
  | m + 1, r => if 2 ^ m ≤ r then m :: dg m (r - 2 ^ m) else dg m r
theorem dg_length (m r : Nat) : (dg m r).length ≤ m := by
  induction m generalizing r with
  | zero => simp [dg]
  | succ m ih =>
    unfold dg
    split
    · rw [List.length_cons]; have := ih (r - 2 ^ m); omega
    · have := ih r; omega
theorem desc (m : Nat) : ∀ (p hi r : Nat), m ≤ 63 → 2 ^ m ∣ p → hi = p + r → r < 2 ^ m → hi ≤ 4611686018427387904 → (greedy p hi).map (·.1) = dg m r := by
  induction m with
  | zero =>
    intro p hi r _ _ hr hlt _
    rw [Nat.pow_zero] at hlt
    rw [greedy_end (by omega)]; rfl
  | succ m ih =>
    intro p hi r hm hd hr hlt hh
    have hd' : 2 ^ m ∣ p := Nat.dvd_trans (Nat.pow_dvd_pow 2 (Nat.le_succ m)) hd
    have hpos := Nat.two_pow_pos m
    have hs : 2 ^ (m + 1) = 2 * 2 ^ m := by rw [Nat.pow_succ, Nat.mul_comm]
    unfold dg
    by_cases h : 2 ^ m ≤ r
    · rw [if_pos h]
      have hl : lev p hi = m := lev_eq (by omega) hh ⟨by omega, hd', by omega⟩ (by
        rintro ⟨g1, _, g3⟩
        omega)
      rw [greedy_step (by omega), hl, List.map_cons]
      congr 1
      exact ih _ _ _ (by omega) (Nat.dvd_add hd' (Nat.dvd_refl _)) (by omega) (by omega) hh
    · rw [if_neg h]
      exact ih _ _ _ (by omega) hd' hr (by omega) hh
theorem greedy_zero (n : Nat) (h : n ≤ 4611686018427387904) : (greedy 0 n).map (·.1) = dg 63 n :=
  desc 63 0 n n (by omega) (Nat.dvd_zero _) (by omega) (by
    have : (2 : Nat) ^ 63 = 9223372036854775808 := by decide
    omega) h
theorem greedy_len_pos (p hi : Nat) (h0 : 0 < p) (hp : p < hi) (hh : hi ≤ 4611686018427387904) : (greedy p hi).length ≤ 122 - ctz p := by
  induction h : hi - p using Nat.strongRecOn generalizing p with
  | _ n ih =>
    have hc : ctz p < 62 := ctz_lt 62 p (by omega) (by rw [← big62]; omega)
    have hd : 2 ^ ctz p ∣ p := (dvd_ctz (by omega) _).2 (Nat.le_refl _)
    have hd1 : ¬ 2 ^ (ctz p + 1) ∣ p := by rw [dvd_ctz (by omega)]; omega
    by_cases hlt : hi - p < 2 ^ ctz p
    · have := desc (ctz p) p hi (hi - p) (by omega) hd (by omega) hlt hh
      have h1 := congrArg List.length this
      rw [List.length_map] at h1
      have := dg_length (ctz p) (hi - p)
      omega
    · have hl : lev p hi = ctz p := lev_eq hp hh ⟨by omega, hd, by omega⟩ (fun g => hd1 g.2.1)
      rw [greedy_step hp, hl, List.length_cons]
      by_cases hq : p + 2 ^ ctz p < hi
      · have hpos := Nat.two_pow_pos (ctz p)
        have hd2 : 2 ^ (ctz p + 1) ∣ p + 2 ^ ctz p := by
          obtain ⟨q, hq, ho⟩ := ctz_spec p (by omega)
          refine ⟨(q + 1) / 2, ?_⟩
          rw [Nat.pow_succ, Nat.mul_assoc, show 2 * ((q + 1) / 2) = q + 1 by omega, Nat.mul_add, Nat.mul_one, ← hq]
        have hc2 := (dvd_ctz (by omega) _).1 hd2
        have := ih (hi - (p + 2 ^ ctz p)) (by omega) (p + 2 ^ ctz p) (by omega) hq rfl
        have hc3 : ctz (p + 2 ^ ctz p) < 62 := ctz_lt 62 _ (by omega) (by rw [← big62]; omega)
        omega
      · rw [greedy_end hq]; simp; omega
theorem greedy_len (p hi : Nat) (hp : p ≤ hi) (hh : hi ≤ 4611686018427387904) : (greedy p hi).length ≤ 122 := by
  by_cases hlt : p < hi
  · by_cases h0 : p = 0
    · subst h0
      have := congrArg List.length (greedy_zero hi hh)
      rw [List.length_map] at this
      have := dg_length 63 hi
      omega
    · have := greedy_len_pos p hi (by omega) hlt hh
      omega
  · rw [greedy_end hlt]; simp

/-! ### No piece's parent lies within -/
def Inv (lo hi p : Nat) : Prop := p = 0 ∨ p < lo + 2 ^ ctz p ∨ hi < p + 2 ^ ctz p
theorem inv_start (lo hi : Nat) : Inv lo hi lo := .inr (.inl (by have := Nat.two_pow_pos (ctz lo); omega))
theorem base_of {p k : Nat} (hd : 2 ^ k ∣ p) (hd1 : ¬ 2 ^ (k + 1) ∣ p) : p / 2 ^ (k + 1) * 2 ^ (k + 1) + 2 ^ k = p := by
  obtain ⟨q, rfl⟩ := hd
  have hpos := Nat.two_pow_pos k
  have ho : q % 2 = 1 := by
    rcases Nat.mod_two_eq_zero_or_one q with h | h
    · exfalso; apply hd1
      refine ⟨q / 2, ?_⟩
      rw [Nat.pow_succ, Nat.mul_assoc, show 2 * (q / 2) = q by omega]
    · exact h
  rw [Nat.pow_succ, Nat.mul_div_mul_left _ _ hpos, ← Nat.mul_assoc, Nat.mul_comm (q / 2) (2 ^ k), Nat.mul_assoc]
  have : q = q / 2 * 2 + 1 := by omega
  calc 2 ^ k * (q / 2 * 2) + 2 ^ k = 2 ^ k * (q / 2 * 2 + 1) := by rw [Nat.mul_add, Nat.mul_one]
    _ = 2 ^ k * q := by rw [← this]
theorem ctz_of {p k : Nat} (h0 : p ≠ 0) (hd : 2 ^ k ∣ p) (hd1 : ¬ 2 ^ (k + 1) ∣ p) : ctz p = k := by
  rw [dvd_ctz h0] at hd hd1
  omega
theorem not_inside {lo hi p : Nat} (hp : p < hi) (hh : hi ≤ 4611686018427387904) (hI : Inv lo hi p) (hk : lev p hi < 62) :
    ¬ (lo ≤ p / 2 ^ (lev p hi + 1) * 2 ^ (lev p hi + 1) ∧ (p / 2 ^ (lev p hi + 1) + 1) * 2 ^ (lev p hi + 1) ≤ hi) := by
  rintro ⟨h1, h2⟩
  obtain ⟨g1, g2, g3⟩ := lev_good hp hh
  have hs : 2 ^ (lev p hi + 1) = 2 * 2 ^ lev p hi := by rw [Nat.pow_succ, Nat.mul_comm]
  have hpos := Nat.two_pow_pos (lev p hi)
  rw [Nat.add_mul, Nat.one_mul] at h2
  by_cases hd : 2 ^ (lev p hi + 1) ∣ p
  · rw [Nat.div_mul_cancel hd] at h2
    have := (good_iff (k := lev p hi + 1) hp hh).1 ⟨by omega, hd, by omega⟩
    omega
  · have hb := base_of g2 hd
    have h0 : p ≠ 0 := by rintro rfl; exact hd (Nat.dvd_zero _)
    have hc := ctz_of h0 g2 hd
    unfold Inv at hI
    rw [hc] at hI
    omega
theorem inv_next {lo hi p : Nat} (hl : lo ≤ p) (hp : p < hi) (hh : hi ≤ 4611686018427387904) (hI : Inv lo hi p) : Inv lo hi (p + 2 ^ lev p hi) := by
  obtain ⟨g1, g2, g3⟩ := lev_good hp hh
  have hpos := Nat.two_pow_pos (lev p hi)
  have hs : 2 ^ (lev p hi + 1) = 2 * 2 ^ lev p hi := by rw [Nat.pow_succ, Nat.mul_comm]
  by_cases hd : 2 ^ (lev p hi + 1) ∣ p
  · -- the piece is smaller than p would let it be
    have h62 : lev p hi < 62 ∨ lev p hi = 62 := by omega
    have hq0 : p + 2 ^ lev p hi ≠ 0 := by omega
    have hn : ¬ 2 ^ (lev p hi + 1) ∣ p + 2 ^ lev p hi := by
      intro h
      have := (Nat.dvd_add_right hd).1 h
      have := Nat.le_of_dvd hpos this
      omega
    have hc := ctz_of hq0 (Nat.dvd_add g2 (Nat.dvd_refl _)) hn
    unfold Inv
    rw [hc]
    right; right
    rcases h62 with h62 | h62
    · rcases Nat.lt_or_ge hi (p + 2 ^ lev p hi + 2 ^ lev p hi) with h | h
      · exact h
      · have := (good_iff (k := lev p hi + 1) hp hh).1 ⟨by omega, hd, by omega⟩
        omega
    · rw [h62] at *
      rw [← big62] at *
      omega
  · have h0 : p ≠ 0 := by rintro rfl; exact hd (Nat.dvd_zero _)
    have hc := ctz_of h0 g2 hd
    have hd2 : 2 ^ (lev p hi + 1) ∣ p + 2 ^ lev p hi := by
      have hb := base_of g2 hd
      refine ⟨p / 2 ^ (lev p hi + 1) + 1, ?_⟩
      rw [Nat.mul_add, Nat.mul_one, Nat.mul_comm]
      omega
    have hc2 := (dvd_ctz (by omega) _).1 hd2
    have hle := Nat.pow_le_pow_right (show 0 < 2 by decide) hc2
    unfold Inv at hI ⊢
    rw [hc] at hI
    generalize 2 ^ ctz (p + 2 ^ lev p hi) = Z at *
    omega
end Go.Proofs.YtahkpcbemnfllaaDoor.Cov
