/- comp: width, Check, and the document's: their walks. -/
import Derived.Test.YtahkpcbemnfllaaDoorFold
import Derived.Test.YtahkpcbemnfllaaDoorRFold
import Derived.Test.YtahkpcbemnfllaaDoorRCover
import Derived.Test.YtahkpcbemnfllaaDoorKeep
import Derived.Deep.RegionHeld3
set_option linter.unusedVariables false
set_option linter.unusedSimpArgs false
namespace Go.Proofs.YtahkpcbemnfllaaDoor.Comp
open Go.RowKit Go.Proofs.YtahkpcbemnfllaaDoor.Base Go.Proofs.YtahkpcbemnfllaaDoor.Mem Go.Proofs.YtahkpcbemnfllaaDoor.Strs Go.Proofs.YtahkpcbemnfllaaDoor.ShaDig Go.Proofs.YtahkpcbemnfllaaDoor.TreeHash Go.Proofs.YtahkpcbemnfllaaDoor.Cov
open Go.Proofs.YtahkpcbemnfllaaDoor.Fold (foldH Fit)
open Go.Proofs.YtahkpcbemnfllaaDoor.Lst (OwnA Adr OwnA.shape Kp own_below)

theorem chain {w W W' : World} (B : Below w.heap.size w W) (C : Below W.heap.size W W') : Below w.heap.size w W' := B.trans (C.mono B.size)
/-- Cover's answer. -/
def covL (lo hi : Int) : List (Nat × Nat) := if lo < 0 ∨ hi < lo ∨ 4611686018427387904 < hi then [] else greedy lo.toNat hi.toNat
def covE (lo hi : Int) : Int := if lo < 0 ∨ hi < lo ∨ 4611686018427387904 < hi then 10 else 0
def GaveE (l : List (Nat × Nat)) (c : Int) (w : World) (e : Ending) (w' : World) : Prop := ∃ v, e = .returned (.tuple #[v, .int .i64 c]) ∧ OwnA w' w.heap.size v l ∧ Below w.heap.size w w'
theorem cov_yes {lo hi : Int} (h : ¬ (lo < 0 ∨ hi < lo ∨ 4611686018427387904 < hi)) : ∃ a b : Nat, lo = a ∧ hi = b ∧ a ≤ b ∧ b ≤ 4611686018427387904 ∧ covL lo hi = greedy a b ∧ covE lo hi = 0 := by
  refine ⟨lo.toNat, hi.toNat, by omega, by omega, by omega, by omega, by unfold covL; rw [if_neg h], by unfold covE; rw [if_neg h]⟩
theorem covL_len (lo hi : Int) : (covL lo hi).length ≤ 122 := by
  by_cases h : lo < 0 ∨ hi < lo ∨ 4611686018427387904 < hi
  · unfold covL; rw [if_pos h]; simp
  · obtain ⟨a, b, rfl, rfl, h1, h2, h3, _⟩ := cov_yes h
    rw [h3]; exact greedy_len a b h1 h2
theorem mcover_calls (lo hi : Int) (w : World) : Calls Tryd.prog 31 #[.int .i64 lo, .int .i64 hi] w (GaveE (covL lo hi) (covE lo hi) w) := by
  by_cases h : lo < 0 ∨ hi < lo ∨ 4611686018427387904 < hi
  · unfold covL covE; rw [if_pos h, if_pos h]
    refine (Cover.mcover_no lo hi w h).mono ?_
    rintro e w' ⟨h1, rfl⟩; exact ⟨_, h1, World.ownsRow_nil _ _ _ _, Below.refl _ _⟩
  · obtain ⟨a, b, rfl, rfl, h1, h2, h3, h4⟩ := cov_yes h
    rw [h3, h4]
    exact (Cover.mcover_yes a b w h1 h2).mono fun e w' ⟨v, h1, h2, _, h3⟩ => ⟨v, h1, h2, h3⟩
theorem rcover_calls (lo hi : Int) (w : World) : Calls Tryd.prog 44 #[.int .i64 lo, .int .i64 hi] w (GaveE (covL lo hi) (covE lo hi) w) := by
  by_cases h : lo < 0 ∨ hi < lo ∨ 4611686018427387904 < hi
  · unfold covL covE; rw [if_pos h, if_pos h]
    refine (Cover.rcover_no lo hi w h).mono ?_
    rintro e w' ⟨h1, rfl⟩; exact ⟨_, h1, World.ownsRow_nil _ _ _ _, Below.refl _ _⟩
  · obtain ⟨a, b, rfl, rfl, h1, h2, h3, h4⟩ := cov_yes h
    rw [h3, h4]
    exact (Cover.rcover_yes a b w h1 h2).mono fun e w' ⟨v, h1, h2, _, h3⟩ => ⟨v, h1, h2, h3⟩
theorem covE_or (lo hi : Int) : covE lo hi = 0 ∨ covE lo hi = 10 := by unfold covE; split <;> simp
theorem width_calls (k : Int) (w : World) : Calls Tryd.prog 34 #[.int .i64 k] w fun e w' => e = .returned (.int .i64 (wid k : Int)) ∧ w = w' := by
  have hw : wid k = if k < 1 ∨ 32 < k then 32 else k.toNat := by unfold wid; rfl
  by_cases h1 : k < 1
  · rw [if_pos (.inl h1)] at hw
    rw [hw]
    go_enter Tryd.func34, Tryd.ntmps34
    go_wp2
    go_ret
    exact ⟨rfl, rfl⟩
  · by_cases h2 : 32 < k
    · rw [if_pos (.inr h2)] at hw
      rw [hw]
      go_enter Tryd.func34, Tryd.ntmps34
      go_wp2
      go_ret
      exact ⟨rfl, rfl⟩
    · rw [if_neg (by omega)] at hw
      rw [hw, show ((k.toNat : Nat) : Int) = k by omega]
      have h1' : decide (k < 1) = false := decide_eq_false h1
      clear hw
      go_enter Tryd.func34, Tryd.ntmps34
      go_wp2
      go_ret
      exact ⟨rfl, rfl⟩
end Go.Proofs.YtahkpcbemnfllaaDoor.Comp
