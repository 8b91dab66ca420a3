/- The document's Fold: its walk. -/
import Derived.Test.YtahkpcbemnfllaaDoorFold
set_option linter.unusedVariables false
set_option linter.unusedSimpArgs false
namespace Go.Proofs.YtahkpcbemnfllaaDoor.Fold
open Go.RowKit Go.Proofs.YtahkpcbemnfllaaDoor.Base Go.Proofs.YtahkpcbemnfllaaDoor.Mem Go.Proofs.YtahkpcbemnfllaaDoor.Strs Go.Proofs.YtahkpcbemnfllaaDoor.ShaDig Go.Proofs.YtahkpcbemnfllaaDoor.TreeHash

theorem rfold_nil (k : Int) (A : Option Addr) (c : Nat) (w : World) (hT : RTab w) : Calls Tryd.prog 35 #[.int .i64 k, .slice A 0 c] w (Gives (emptyH k) w) := by
  have HE := Lib.hid (refEmpty_calls k w hT)
  clear hT
  go_enter Tryd.func35, Tryd.ntmps35
  go_wp2_with fail
  refine HE.out.mono ?_; rintro e w1 ⟨rfl, hb⟩
  go_wp2
  go_ret
  exact ⟨rfl, hb⟩
set_option maxHeartbeats 2000000 in
theorem rfold_calls (k : Int) (A : Option Addr) (n c : Nat) (ss : List ByteArray) (w : World) (hS : Strs w A n ss) (hc : n ≤ c) (hn0 : 0 < n) (hn : n ≤ 8796093022208) (hs : ∀ s ∈ ss, s.size ≤ 70000000000000) (hT : RTab w) :
    Calls Tryd.prog 35 #[.int .i64 k, .slice A n c] w (Gives (foldH k ss) w) := by
  have hl := hS.len
  obtain ⟨m, rfl⟩ : ∃ m, n = m + 1 := ⟨n - 1, by omega⟩
  obtain ⟨ad, rfl, hab, hcell⟩ := hS.at_ m (by omega)
  have hacc : ∀ j, j ≤ m → (acc k ss j).size ≤ 70000000000000 := fun j hj => acc_size k ss _ (by omega) hs (by omega) j (by omega)
  have hstep : ∀ j, j < m → acc k ss (j + 1) = nodeH k (ss.getD (m - 1 - j) ⟨#[]⟩) (acc k ss j) := fun j hj => by
    rw [acc_succ k ss j (by omega), hl, show m + 1 - 1 - (j + 1) = m - 1 - j by omega]
  have h0 : ss.getD m ⟨#[]⟩ = acc k ss 0 := by rw [acc_zero, hl]; rfl
  have hend : acc k ss m = foldH k ss := by rw [← acc_end k ss (by omega), hl]; rfl
  rw [← hend]
  rw [h0] at hcell
  have HNODE : Hid (∀ j, j < m → ∀ W, RTab W → Calls Tryd.prog 55 #[.int .i64 k, .string (ss.getD (m - 1 - j) ⟨#[]⟩), .string (acc k ss j)] W (Gives (acc k ss (j + 1)) W)) :=
    Lib.hid fun j hj W hTW => by rw [hstep j hj]; exact refNode_calls k _ _ (by have := get_size hs (m - 1 - j); have := hacc j (by omega); omega) W hTW
  have HT := Lib.hid hT
  have HS := Lib.hid hS
  have hne0 : ((m : Int) + 1 == 0) = false := by rw [beq_eq_false_iff_ne]; omega
  clear hT hS hl hs hacc hstep h0 hend
  go_enter Tryd.func35, Tryd.ntmps35
  go_wp2
  go_loopw [6, 7] (fun h i wr => ∃ j : Nat, h = .string (acc k ss j) ∧ i = .int .i64 ((m : Int) - 1 - (j : Int)) ∧ j ≤ m ∧ Hid (Below w.heap.size w wr)) (fun _ i _ => (intOf i + 1).toNat)
  case atStart => exact ⟨0, rfl, by simp; omega, by omega, Lib.hid (Below.refl _ _)⟩
  case round =>
    obtain ⟨j, rfl, rfl, hj, hb⟩ := hrel
    by_cases hlt : j < m
    · obtain ⟨i, hi⟩ : ∃ i, m = j + 1 + i := ⟨m - j - 1, by omega⟩
      rw [show (m : Int) - 1 - (j : Int) = (i : Int) by omega]
      obtain ⟨ad', hA, _, hc⟩ := (HS.out.below hb.out).at_ i (by omega)
      obtain rfl : ad = ad' := Option.some.inj hA
      have hN := HNODE.out j hlt wr (HT.out.below hb.out)
      rw [show m - 1 - j = i by omega] at hN
      have HN := Lib.hid hN
      have HI := Lib.hid hi
      have hilt : (i : Int) < (m : Int) + 1 := by omega
      clear hN hA hi
      generalize ss.getD i ⟨#[]⟩ = x at *
      go_wp2_with (go_at_call 55; ((with_reducible refine HN.out.mono ?_); rintro e w2 ⟨rfl, hb2⟩; have HB2 := Lib.hid (hb.out.trans (hb2.mono hb.out.size)); clear hb2))
      go_roundw
      case rel => exact ⟨j + 1, rfl, by have := HI.out; rw [show (m : Int) - 1 - ((j + 1 : Nat) : Int) = (i : Int) - 1 by omega], by omega, HB2⟩
      case measure => simp only [intOf]; omega
    · obtain rfl : j = m := by omega
      rw [show (j : Int) - 1 - (j : Int) = -1 by omega]
      go_wp2
      go_ret
      exact ⟨rfl, hb.out⟩
end Go.Proofs.YtahkpcbemnfllaaDoor.Fold
