/- mth.split, halves, Root, and the document's Split and Root: their walks. -/
import Derived.Test.YtcenfedmbicofaaDoorMthPlain
import Derived.Test.YtcenfedmbicofaaDoorStrs2
import Derived.Deep.QuietTactic
import Derived.BigQuiet
set_option linter.unusedVariables false
set_option linter.unusedSimpArgs false
namespace Go.Proofs.YtcenfedmbicofaaDoor.Mth
open Go.RowKit Go.Proofs.YtcenfedmbicofaaDoor.Base Go.Proofs.YtcenfedmbicofaaDoor.ShaDig Go.Proofs.YtcenfedmbicofaaDoor.TreeHash Go.Proofs.YtcenfedmbicofaaDoor.Strs Go.Proofs.YtcenfedmbicofaaDoor.Mem

set_option maxHeartbeats 1000000 in
theorem split_calls (n : Nat) (h2 : 2 ≤ n) (hn : n ≤ 1000000000000000) (w : World) : Calls Tryd.prog 64 #[.int .i64 (n : Int)] w (fun e w' => e = .returned (.int .i64 (sp n : Int)) ∧ w = w') := by
  go_enter Tryd.func64, Tryd.ntmps64
  go_wp2_with fail
  go_loop [3] (fun s3 => ∃ p : Nat, 1 ≤ p ∧ p < n ∧ s3 = .int .i64 p ∧ Hid (∃ j, p = 2 ^ j)) (fun s3 => n - (intOf s3).toNat)
  case atStart => exact ⟨1, by omega, by omega, rfl, Lib.hid ⟨0, rfl⟩⟩
  case round =>
    obtain ⟨p, hp1, hp, rfl, hj⟩ := hrel
    by_cases hlt : p < n - p
    · have hlt' : (p : Int) < (n : Int) - (p : Int) := by omega
      have HJ : Hid (∃ j, 2 * p = 2 ^ j) := Lib.hid (by obtain ⟨j, e⟩ := hj.out; exact ⟨j + 1, by rw [Nat.pow_succ, e]; omega⟩)
      go_wp2
      go_round
      case rel => exact ⟨2 * p, by omega, by omega, by go_num, HJ⟩
      case measure => simp [intOf]; omega
    · have hlt' : ¬ (p : Int) < (n : Int) - (p : Int) := by omega
      have HE : Hid (p = sp n) := Lib.hid (by
        obtain ⟨j, e⟩ := hj.out
        rw [e]
        exact sp_of (by omega) (by omega))
      go_wp2
      go_ret
      exact ⟨by rw [← HE.out]; rfl, rfl⟩
set_option maxHeartbeats 1000000 in
theorem refSplit_calls (n : Nat) (h2 : 2 ≤ n) (hn : n ≤ 1000000000000000) (w : World) : Calls Tryd.prog 49 #[.int .i64 (n : Int)] w (fun e w' => e = .returned (.int .i64 (sp n : Int)) ∧ w = w') := by
  go_enter Tryd.func49, Tryd.ntmps49
  go_wp2_with fail
  go_loop [3] (fun s3 => ∃ p : Nat, 1 ≤ p ∧ p < n ∧ s3 = .int .i64 p ∧ Hid (∃ j, p = 2 ^ j)) (fun s3 => n - (intOf s3).toNat)
  case atStart => exact ⟨1, by omega, by omega, rfl, Lib.hid ⟨0, rfl⟩⟩
  case round =>
    obtain ⟨p, hp1, hp, rfl, hj⟩ := hrel
    by_cases hlt : p < n - p
    · have hlt' : (p : Int) ≤ ((n : Int) - 1) / 2 := by omega
      have HJ : Hid (∃ j, 2 * p = 2 ^ j) := Lib.hid (by obtain ⟨j, e⟩ := hj.out; exact ⟨j + 1, by rw [Nat.pow_succ, e]; omega⟩)
      go_wp2
      go_round
      case rel => exact ⟨2 * p, by omega, by omega, by go_num, HJ⟩
      case measure => simp [intOf]; omega
    · have hlt' : ¬ (p : Int) ≤ ((n : Int) - 1) / 2 := by omega
      have HE : Hid (p = sp n) := Lib.hid (by
        obtain ⟨j, e⟩ := hj.out
        rw [e]
        exact sp_of (by omega) (by omega))
      go_wp2
      go_ret
      exact ⟨by rw [← HE.out]; rfl, rfl⟩
set_option maxHeartbeats 1000000 in
theorem halves_calls (A : Option Addr) (n c : Nat) (h2 : 2 ≤ n) (hc : n ≤ c) (hn : n ≤ 1000000000000000) (w : World) :
    Calls Tryd.prog 48 #[.slice A n c] w (fun e w' => e = .returned (.tuple #[.slice A (sp n) (sp n), .slice (cutA A (sp n) n) (n - sp n) (n - sp n)]) ∧ Below w.heap.size w w') := by
  have HS := Lib.hid (fun W => split_calls n h2 hn W)
  obtain ⟨s1, s2, s3⟩ := sp_spec h2
  generalize sp n = p at *
  have hr1 := fun W => run_cut_0hm W A n c p p (Nat.le_refl _) (by omega)
  have hr2 := fun W => run_cut_lhm W A n c p n n (by omega) (Nat.le_refl _) hc
  go_enter Tryd.func48, Tryd.ntmps48
  go_wp2_with fail
  refine (HS.out _).mono ?_; rintro e _ ⟨rfl, rfl⟩
  go_wp2_with fail
  go_quiet (fail)
  go_wp2
  go_ret2
  exact ⟨rfl, ((Grew.refl w none).drewN _).below⟩
def All (ss : List ByteArray) : Prop := ∀ s ∈ ss, s.size ≤ 140737488352000
theorem All.of {ss : List ByteArray} (h : ∀ s ∈ ss, s.size ≤ 140737488351232) : All ss := fun s hs => Nat.le_trans (h s hs) (by decide)
theorem All.take {ss : List ByteArray} (h : All ss) (i : Nat) : All (ss.take i) := fun s hs => h s (List.mem_of_mem_take hs)
theorem All.drop {ss : List ByteArray} (h : All ss) (i : Nat) : All (ss.drop i) := fun s hs => h s (List.mem_of_mem_drop hs)
theorem All.getD {ss : List ByteArray} (h : All ss) (i : Nat) : (ss.getD i ⟨#[]⟩).size ≤ 140737488352000 := by
  rw [List.getD_eq_getElem?_getD]
  by_cases hi : i < ss.length
  · rw [List.getElem?_eq_getElem hi]; exact h _ (List.getElem_mem hi)
  · rw [List.getElem?_eq_none (by omega)]; exact Nat.zero_le _
set_option maxHeartbeats 2000000 in
theorem mroot_calls (k : Int) (m : Nat) : ∀ (A : Option Addr) (n c : Nat) (ss : List ByteArray) (w : World), n ≤ m → Strs w A n ss → n ≤ c → n ≤ 1000000000000000 → All ss → Tab w →
    Calls Tryd.prog 24 #[.int .i64 k, .slice A n c] w (Gives (root k ss) w) := by
  induction m with
  | zero =>
    intro A n c ss w hm hs hc hn ha hT
    obtain rfl : n = 0 := by omega
    have hl := hs.len
    obtain rfl : ss = [] := List.eq_nil_of_length_eq_zero hl
    have HE := Lib.hid (empty_calls k w hT)
    rw [root_nil]
    clear hT hs hl
    go_enter Tryd.func24, Tryd.ntmps24
    go_wp2_with fail
    refine HE.out.mono ?_; rintro e w1 ⟨rfl, hb⟩
    go_wp2
    go_ret
    exact ⟨rfl, hb⟩
  | succ m ih =>
    intro A n c ss w hm hs hc hn ha hT
    have hl := hs.len
    by_cases h0 : n = 0
    · obtain rfl : ss = [] := List.eq_nil_of_length_eq_zero (hl.trans h0)
      subst h0
      have HE := Lib.hid (empty_calls k w hT)
      rw [root_nil]
      clear hT hs hl ih
      go_enter Tryd.func24, Tryd.ntmps24
      go_wp2_with fail
      refine HE.out.mono ?_; rintro e w1 ⟨rfl, hb⟩
      go_wp2
      go_ret
      exact ⟨rfl, hb⟩
    · by_cases h1 : n = 1
      · subst h1
        rw [one_of hl, root_one]
        obtain ⟨ad, rfl, hab, hcell⟩ := hs.at_ 0 (by omega)
        rw [Strs.add_zero] at hcell
        have hz := ha.getD 0
        generalize ss.getD 0 ⟨#[]⟩ = d at *
        have HE := Lib.hid (leaf_calls k d (by omega) w hT)
        clear hT hs hl ih ha
        go_enter Tryd.func24, Tryd.ntmps24
        go_wp2_with fail
        refine HE.out.mono ?_; rintro e w1 ⟨rfl, hb⟩
        go_wp2
        go_ret
        exact ⟨rfl, hb⟩
      · have h2 : 2 ≤ n := by omega
        obtain ⟨s1, s2, s3⟩ := sp_spec h2
        have HH := Lib.hid (halves_calls A n c h2 hc hn w)
        have hrt := root_node k ss (by omega)
        rw [hl] at hrt
        rw [hrt]
        have HL : Hid (∀ W, Below w.heap.size w W → Calls Tryd.prog 24 #[.int .i64 k, .slice A (sp n) (sp n)] W (Gives (root k (ss.take (sp n))) W)) :=
          Lib.hid fun W hb => ih A (sp n) (sp n) _ W (by omega) ((hs.below hb).take _ (by omega)) (Nat.le_refl _) (by omega) (ha.take _) (hT.below hb)
        have HR : Hid (∀ W, Below w.heap.size w W → Calls Tryd.prog 24 #[.int .i64 k, .slice (cutA A (sp n) n) (n - sp n) (n - sp n)] W (Gives (root k (ss.drop (sp n))) W)) :=
          Lib.hid fun W hb => ih (cutA A (sp n) n) (n - sp n) (n - sp n) _ W (by omega) ((hs.below hb).cut_all _ n (by omega) (Nat.le_refl _)) (Nat.le_refl _) (by omega) (ha.drop _) (hT.below hb)
        have z1 := Lib.hid (root_size k (ss.take (sp n)))
        have z2 := Lib.hid (root_size k (ss.drop (sp n)))
        have z3 := (wid_le k).2
        have HN : Hid (∀ W, Below w.heap.size w W → Calls Tryd.prog 19 #[.int .i64 k, .string (root k (ss.take (sp n))), .string (root k (ss.drop (sp n)))] W (Gives (nodeH k (root k (ss.take (sp n))) (root k (ss.drop (sp n)))) W)) :=
          Lib.hid fun W hb => node_calls k _ _ (by rw [z1.out, z2.out]; omega) W (hT.below hb)
        generalize root k (ss.take (sp n)) = L at *
        generalize root k (ss.drop (sp n)) = R at *
        clear hT hs hl ih ha hrt
        have hne0 : ((n : Int) == 0) = false := by rw [beq_eq_false_iff_ne]; omega
        have hne1 : ((n : Int) == 1) = false := by rw [beq_eq_false_iff_ne]; omega
        go_enter Tryd.func24, Tryd.ntmps24
        go_wp2_with fail
        refine HH.out.mono ?_; rintro e w1 ⟨rfl, B1⟩
        have q1 := B1.size
        go_wp2_with fail
        refine (HL.out _ B1).mono ?_; rintro e w2 ⟨rfl, C2⟩
        have B2 := B1.trans (C2.mono q1)
        have q2 := B2.size
        clear C2 B1
        go_wp2_with fail
        refine (HR.out _ B2).mono ?_; rintro e w3 ⟨rfl, C3⟩
        have B3 := B2.trans (C3.mono q2)
        have q3 := B3.size
        clear C3 B2
        go_wp2_with fail
        refine (HN.out _ B3).mono ?_; rintro e w4 ⟨rfl, C4⟩
        have B4 := B3.trans (C4.mono q3)
        clear C4 B3
        go_wp2
        go_ret
        exact ⟨rfl, B4⟩
set_option maxHeartbeats 2000000 in
theorem rroot_calls (k : Int) (m : Nat) : ∀ (A : Option Addr) (n c : Nat) (ss : List ByteArray) (w : World), n ≤ m → Strs w A n ss → n ≤ c → n ≤ 1000000000000000 → All ss → RTab w →
    Calls Tryd.prog 25 #[.int .i64 k, .slice A n c] w (Gives (root k ss) w) := by
  induction m with
  | zero =>
    intro A n c ss w hm hs hc hn ha hT
    obtain rfl : n = 0 := by omega
    have hl := hs.len
    obtain rfl : ss = [] := List.eq_nil_of_length_eq_zero hl
    have HE := Lib.hid (refEmpty_calls k w hT)
    rw [root_nil]
    clear hT hs hl
    go_enter Tryd.func25, Tryd.ntmps25
    go_wp2_with fail
    refine HE.out.mono ?_; rintro e w1 ⟨rfl, hb⟩
    go_wp2
    go_ret
    exact ⟨rfl, hb⟩
  | succ m ih =>
    intro A n c ss w hm hs hc hn ha hT
    have hl := hs.len
    by_cases h0 : n = 0
    · obtain rfl : ss = [] := List.eq_nil_of_length_eq_zero (hl.trans h0)
      subst h0
      have HE := Lib.hid (refEmpty_calls k w hT)
      rw [root_nil]
      clear hT hs hl ih
      go_enter Tryd.func25, Tryd.ntmps25
      go_wp2_with fail
      refine HE.out.mono ?_; rintro e w1 ⟨rfl, hb⟩
      go_wp2
      go_ret
      exact ⟨rfl, hb⟩
    · by_cases h1 : n = 1
      · subst h1
        rw [one_of hl, root_one]
        obtain ⟨ad, rfl, hab, hcell⟩ := hs.at_ 0 (by omega)
        rw [Strs.add_zero] at hcell
        have hz := ha.getD 0
        generalize ss.getD 0 ⟨#[]⟩ = d at *
        have HE := Lib.hid (refLeaf_calls k d (by omega) w hT)
        clear hT hs hl ih ha
        go_enter Tryd.func25, Tryd.ntmps25
        go_wp2_with fail
        refine HE.out.mono ?_; rintro e w1 ⟨rfl, hb⟩
        go_wp2
        go_ret
        exact ⟨rfl, hb⟩
      · have h2 : 2 ≤ n := by omega
        obtain ⟨s1, s2, s3⟩ := sp_spec h2
        have HH := Lib.hid (fun W => refSplit_calls n h2 hn W)
        have hrt := root_node k ss (by omega)
        rw [hl] at hrt
        rw [hrt]
        have HL : Hid (∀ W, Below w.heap.size w W → Calls Tryd.prog 25 #[.int .i64 k, .slice A (sp n) c] W (Gives (root k (ss.take (sp n))) W)) :=
          Lib.hid fun W hb => ih A (sp n) c _ W (by omega) ((hs.below hb).take _ (by omega)) (by omega) (by omega) (ha.take _) (hT.below hb)
        have HR : Hid (∀ W, Below w.heap.size w W → Calls Tryd.prog 25 #[.int .i64 k, .slice (cutA A (sp n) c) (n - sp n) (c - sp n)] W (Gives (root k (ss.drop (sp n))) W)) :=
          Lib.hid fun W hb => ih (cutA A (sp n) c) (n - sp n) (c - sp n) _ W (by omega) ((hs.below hb).cut_all _ c (by omega) hc) (by omega) (by omega) (ha.drop _) (hT.below hb)
        have z1 := Lib.hid (root_size k (ss.take (sp n)))
        have z2 := Lib.hid (root_size k (ss.drop (sp n)))
        have z3 := (wid_le k).2
        have HN : Hid (∀ W, Below w.heap.size w W → Calls Tryd.prog 20 #[.int .i64 k, .string (root k (ss.take (sp n))), .string (root k (ss.drop (sp n)))] W (Gives (nodeH k (root k (ss.take (sp n))) (root k (ss.drop (sp n)))) W)) :=
          Lib.hid fun W hb => refNode_calls k _ _ (by rw [z1.out, z2.out]; omega) W (hT.below hb)
        generalize root k (ss.take (sp n)) = L at *
        generalize root k (ss.drop (sp n)) = R at *
        have hr1 := fun W => run_cut_h W A n c (sp n) (by omega)
        have hr2 := fun W => run_cut_l W A n c (sp n) (by omega)
        generalize sp n = p at *
        clear hT hs hl ih ha hrt
        have hne0 : ((n : Int) == 0) = false := by rw [beq_eq_false_iff_ne]; omega
        have hne1 : ((n : Int) == 1) = false := by rw [beq_eq_false_iff_ne]; omega
        go_enter Tryd.func25, Tryd.ntmps25
        go_wp2_with fail
        refine (HH.out _).mono ?_; rintro e _ ⟨rfl, rfl⟩
        have B1 := Below.refl w.heap.size w
        go_wp2_with fail
        refine (HL.out _ B1).mono ?_; rintro e w2 ⟨rfl, B2⟩
        have q2 := B2.size
        go_wp2_with fail
        refine (HR.out _ B2).mono ?_; rintro e w3 ⟨rfl, C3⟩
        have B3 := B2.trans (C3.mono q2)
        have q3 := B3.size
        clear C3 B2
        go_wp2_with fail
        refine (HN.out _ B3).mono ?_; rintro e w4 ⟨rfl, C4⟩
        have B4 := B3.trans (C4.mono q3)
        clear C4 B3
        go_wp2
        go_ret
        exact ⟨rfl, B4⟩
end Go.Proofs.YtcenfedmbicofaaDoor.Mth
