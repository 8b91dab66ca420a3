/- The statements' root by halves: its walk. -/
import Derived.Test.YtcenfedmbicofaaDoorFoldsP
import Derived.Test.YtcenfedmbicofaaDoorMthRoot
set_option linter.unusedVariables false
set_option linter.unusedSimpArgs false
namespace Go.Proofs.YtcenfedmbicofaaDoor.Folds
open Go.RowKit Go.Proofs.YtcenfedmbicofaaDoor.Base Go.Proofs.YtcenfedmbicofaaDoor.Mem Go.Proofs.YtcenfedmbicofaaDoor.Strs Go.Proofs.YtcenfedmbicofaaDoor.ShaDig Go.Proofs.YtcenfedmbicofaaDoor.TreeHash Go.Proofs.YtcenfedmbicofaaDoor.Fold Go.Proofs.YtcenfedmbicofaaDoor.Mth

set_option maxHeartbeats 2000000 in
theorem rooted_calls (k : Int) (m : Nat) : ∀ (A : Option Addr) (n c : Nat) (ss : List ByteArray) (w : World), n ≤ m → Strs w A n ss → n ≤ c → n ≤ 1000000000 → Fit ss → Tab w →
    Calls Tryd.prog 44 #[.int .i64 k, .slice A n c] w (Gives (rt k ss) w) := by
  induction m with
  | zero =>
    intro A n c ss w hm hs hc hn ha hT
    obtain rfl : n = 0 := by omega
    have hl := hs.len
    obtain rfl : ss = [] := List.eq_nil_of_length_eq_zero hl
    have HE := Lib.hid (empty_calls k w hT)
    rw [rt_nil]
    clear hT hs hl
    go_enter Tryd.func44, Tryd.ntmps44
    go_wp2_with fail
    refine HE.out.mono ?_; rintro e w1 ⟨rfl, hb⟩
    go_wp2
    go_ret
    exact ⟨rfl, hb⟩
  | succ m ih =>
    intro A n c ss w hm hs hc hn ha hT
    have hl := hs.len
    by_cases h0 : n = 0
    · obtain rfl : ss = [] := List.eq_nil_of_length_eq_zero (hl.trans h0)
      subst h0
      have HE := Lib.hid (empty_calls k w hT)
      rw [rt_nil]
      clear hT hs hl ih
      go_enter Tryd.func44, Tryd.ntmps44
      go_wp2_with fail
      refine HE.out.mono ?_; rintro e w1 ⟨rfl, hb⟩
      go_wp2
      go_ret
      exact ⟨rfl, hb⟩
    · by_cases h1 : n = 1
      · subst h1
        rw [one_of hl, rt_one]
        obtain ⟨ad, rfl, hab, hcell⟩ := hs.at_ 0 (by omega)
        rw [Strs.add_zero] at hcell
        generalize ss.getD 0 ⟨#[]⟩ = d at *
        clear hT hs hl ih ha
        go_enter Tryd.func44, Tryd.ntmps44
        go_wp2
        go_ret
        exact ⟨rfl, Below.refl _ _⟩
      · have h2 : 2 ≤ n := by omega
        obtain ⟨s1, s2, s3⟩ := sp_spec h2
        have hrt := rt_node k ss (by omega)
        rw [hl] at hrt
        rw [hrt]
        have HL : Hid (∀ W, Below w.heap.size w W → Calls Tryd.prog 44 #[.int .i64 k, .slice A (sp n) c] W (Gives (rt k (ss.take (sp n))) W)) :=
          Lib.hid fun W hb => ih A (sp n) c _ W (by omega) ((hs.below hb).take _ (by omega)) (by omega) (by omega) (fun s h => ha s (List.mem_of_mem_take h)) (hT.below hb)
        have HR : Hid (∀ W, Below w.heap.size w W → Calls Tryd.prog 44 #[.int .i64 k, .slice (cutA A (sp n) c) (n - sp n) (c - sp n)] W (Gives (rt k (ss.drop (sp n))) W)) :=
          Lib.hid fun W hb => ih (cutA A (sp n) c) (n - sp n) (c - sp n) _ W (by omega) ((hs.below hb).cut_all _ c (by omega) hc) (by omega) (by omega) (fun s h => ha s (List.mem_of_mem_drop h)) (hT.below hb)
        have z1 := rt_fit k 140737488351300 (by omega) _ (ss.take (sp n)) (Nat.le_refl _) (fun s h => ha s (List.mem_of_mem_take h))
        have z2 := rt_fit k 140737488351300 (by omega) _ (ss.drop (sp n)) (Nat.le_refl _) (fun s h => ha s (List.mem_of_mem_drop h))
        have HN : Hid (∀ W, Below w.heap.size w W → Calls Tryd.prog 19 #[.int .i64 k, .string (rt k (ss.take (sp n))), .string (rt k (ss.drop (sp n)))] W (Gives (nodeH k (rt k (ss.take (sp n))) (rt k (ss.drop (sp n)))) W)) :=
          Lib.hid fun W hb => node_calls k _ _ (by omega) W (hT.below hb)
        generalize rt k (ss.take (sp n)) = L at *
        generalize rt k (ss.drop (sp n)) = R at *
        have hr1 := fun W => run_cut_h W A n c (sp n) (by omega)
        have hr2 := fun W => run_cut_l W A n c (sp n) (by omega)
        have HSP : Hid (∀ p, 2 ^ p < n → n ≤ 2 * 2 ^ p → 2 ^ p = sp n) := Lib.hid fun p h1 h2 => sp_of h1 h2
        generalize sp n = q at *
        clear hT hs hl ih ha hrt z1 z2
        have hne0 : ((n : Int) == 0) = false := by rw [beq_eq_false_iff_ne]; omega
        have hne1 : ((n : Int) == 1) = false := by rw [beq_eq_false_iff_ne]; omega
        go_enter Tryd.func44, Tryd.ntmps44
        go_wp2_with fail
        go_loop [6] (fun s => ∃ p : Nat, 1 ≤ p ∧ p < n ∧ s = .int .i64 p ∧ Hid (∃ j, p = 2 ^ j)) (fun s => n - (intOf s).toNat)
        case atStart => exact ⟨1, by omega, by omega, rfl, Lib.hid ⟨0, rfl⟩⟩
        case round =>
          obtain ⟨p, hp1, hp, rfl, hj⟩ := hrel
          by_cases hlt : 2 * p < n
          · have hlt' : 2 * (p : Int) < (n : Int) := by omega
            have HJ : Hid (∃ j, 2 * p = 2 ^ j) := Lib.hid (by obtain ⟨j, e⟩ := hj.out; exact ⟨j + 1, by rw [Nat.pow_succ, e]; omega⟩)
            go_wp2
            go_round
            case rel => exact ⟨2 * p, by omega, by omega, by go_num, HJ⟩
            case measure => simp [intOf]; omega
          · have hlt' : ¬ 2 * (p : Int) < (n : Int) := by omega
            obtain rfl : p = q := by
              obtain ⟨j, e⟩ := hj.out
              subst e
              exact HSP.out j (by omega) (by omega)
            clear hj
            go_wp2_with fail
            refine (HL.out _ (Below.refl _ _)).mono ?_; rintro e w2 ⟨rfl, B2⟩
            have q2 := B2.size
            go_wp2_with fail
            refine (HR.out _ B2).mono ?_; rintro e w3 ⟨rfl, C3⟩
            have B3 := B2.trans (C3.mono q2)
            have q3 := B3.size
            clear C3 B2
            go_wp2_with fail
            refine (HN.out _ B3).mono ?_; rintro e w4 ⟨rfl, C4⟩
            have B4 := B3.trans (C4.mono q3)
            clear C4 B3
            go_wp2
            go_ret
            exact ⟨rfl, B4⟩
end Go.Proofs.YtcenfedmbicofaaDoor.Folds
