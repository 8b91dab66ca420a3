/- MthChange: its walk. -/
import Derived.Test.YtcenfedmbicofaaDoorMthClash
set_option linter.unusedVariables false
set_option linter.unusedSimpArgs false
namespace Go.Proofs.YtcenfedmbicofaaDoor.Mth
open Go.RowKit Go.Proofs.YtcenfedmbicofaaDoor.Base Go.Proofs.YtcenfedmbicofaaDoor.ShaPlain Go.Proofs.YtcenfedmbicofaaDoor.ShaDig Go.Proofs.YtcenfedmbicofaaDoor.TreeHash Go.Proofs.YtcenfedmbicofaaDoor.Strs Go.Proofs.YtcenfedmbicofaaDoor.Mem

set_option maxHeartbeats 4000000 in
theorem mthChange_idle (k i : Int) (A : Option Addr) (n c : Nat) (ss : List ByteArray) (leaf : ByteArray) (w : World) (hC : Came w A n c ss) (hT : Tab w) (hi : i < 0 ∨ (n : Int) ≤ i ∨ (0 ≤ i ∧ i < (n : Int) ∧ ss.getD i.toNat ⟨#[]⟩ = leaf)) :
    Calls Tryd.prog 6 #[.int .i64 k, .int .i64 i, .slice A n c, .string leaf] w (AllTrue w) := by
  obtain ⟨hS, hnc, hcb, hsz⟩ := hC
  have HR : Hid (∀ W, Below w.heap.size w W → Calls Tryd.prog 24 #[.int .i64 k, .slice A n c] W (Gives (root k ss) W)) := Lib.hid fun W hb => mroot_calls k n A n c ss W (Nat.le_refl _) (hS.below hb) hnc (by omega) hsz (hT.below hb)
  have HE : Hid (∀ W, Below w.heap.size w W → Calls Tryd.prog 24 #[.int .i64 1, .slice none 0 0] W (Gives (root 1 []) W)) := Lib.hid fun W hb => mroot_calls 1 0 none 0 0 [] W (Nat.le_refl _) (Strs.nil _ _) (Nat.le_refl _) (by omega) (by intro s hs; cases hs) (hT.below hb)
  have hne := root_some k ss
  have hz1 : (root 1 []).size = 1 := by rw [root_size]; rfl
  have B0 := Below.refl w.heap.size w
  generalize root 1 [] = t1 at *
  generalize root k ss = t at *
  have hi' : i < 0 ∨ (¬ i < 0 ∧ (n : Int) ≤ i) ∨ (0 ≤ i ∧ i < (n : Int) ∧ ss.getD i.toNat ⟨#[]⟩ = leaf) := by
    by_cases hz : i < 0
    · exact .inl hz
    · rcases hi with h | h | h
      · exact .inl h
      · exact .inr (.inl ⟨hz, h⟩)
      · exact .inr (.inr h)
  clear hi
  rcases hi' with h | ⟨h0, h⟩ | ⟨h0, h, he⟩
  case' inr.inr =>
    obtain ⟨j, rfl⟩ := Int.eq_ofNat_of_zero_le h0
    have hj : j < n := by omega
    obtain ⟨ad, hA, hab, hcell⟩ := hS.at_ j hj
    rw [Int.toNat_natCast] at he
    rw [he] at hcell
    have h1 : ¬ (n : Int) ≤ (j : Int) := by omega
    subst hA
    clear he
  all_goals
    clear hS hT hsz
    go_enter Tryd.func6, Tryd.ntmps6
    go_wp2_with fail
    refine (HR.out _ (by first | assumption | exact Below.drew (by assumption))).mono ?_; rintro e w1 ⟨rfl, C1⟩
    have B1 := chain (by first | assumption | exact Below.drew (by assumption)) C1
    clear C1
    go_wp2_with fail
    refine (HE.out _ B1).mono ?_; rintro e w2 ⟨rfl, C2⟩
    have B2 := chain B1 C2
    clear C2
    go_wp2
    go_ret
    exact ⟨by simp [hz1], B2⟩
set_option maxHeartbeats 4000000 in
theorem mthChange_real (k : Int) (i : Nat) (A : Option Addr) (n c : Nat) (ss : List ByteArray) (leaf : ByteArray) (w : World) (hC : Came w A n c ss) (hlf : leaf.size ≤ 140737488351232) (hT : Tab w) (hi : i < n) (hd : ss.getD i ⟨#[]⟩ ≠ leaf) :
    Calls Tryd.prog 6 #[.int .i64 k, .int .i64 (i : Int), .slice A n c, .string leaf] w (AllTrue w) := by
  have HTW := Lib.hid (twin_calls A n c ss w hC)
  obtain ⟨hS, hnc, hcb, hsz⟩ := hC
  have HL := Lib.hid hS.len
  have HR : Hid (∀ W, Below w.heap.size w W → Calls Tryd.prog 24 #[.int .i64 k, .slice A n c] W (Gives (root k ss) W)) := Lib.hid fun W hb => mroot_calls k n A n c ss W (Nat.le_refl _) (hS.below hb) hnc (by omega) hsz (hT.below hb)
  have HR2 : Hid (∀ W g d, Below w.heap.size w W → Strs W (some ⟨g, 0, none⟩) n (ss.set i leaf) → n ≤ d → Calls Tryd.prog 24 #[.int .i64 k, .slice (some ⟨g, 0, none⟩) n d] W (Gives (root k (ss.set i leaf)) W)) := Lib.hid fun W g d hb hs hd => mroot_calls k n _ n d _ W (Nat.le_refl _) hs hd (by omega) (All.set hsz i hlf) (hT.below hb)
  have hdiff : ss ≠ ss.set i leaf := by
    intro e
    apply hd
    conv => lhs; rw [e]
    rw [List.getD_eq_getElem?_getD, List.getElem?_set_self (by rw [HL.out]; exact hi)]
    rfl
  have HCL : Hid (root k ss = root k (ss.set i leaf) → ∀ W g d, Below w.heap.size w W → Strs W (some ⟨g, 0, none⟩) n (ss.set i leaf) → n ≤ d → Calls Tryd.prog 27 #[.int .i64 k, .slice A n c, .slice (some ⟨g, 0, none⟩) n d] W (AllTrue W)) :=
    Lib.hid fun he W g d hb hs hd => clash_calls k n n A c _ d ss _ W (Nat.le_refl _) (by omega) (by omega) (hS.below hb) hs hnc hd hsz (All.set hsz i hlf) hdiff he (hT.below hb)
  have HSET : Hid (∀ (W : World) g, Strs W (some ⟨g, 0, none⟩) n ss → Strs (W.setCell ⟨g, i, none⟩ (.string leaf)) (some ⟨g, 0, none⟩) n (ss.set i leaf)) := Lib.hid fun W g h => strs_set h hi leaf
  have hne := root_some k ss
  obtain ⟨ad, hA, hab, hcell⟩ := hS.at_ i hi
  have hi1 : ¬ (i : Int) < 0 := by omega
  have hi2 : ¬ (n : Int) ≤ (i : Int) := by omega
  have hi3 : (i : Int) < (n : Int) := by omega
  obtain ⟨e1, e2⟩ := ne_beq hd
  generalize ss.getD i ⟨#[]⟩ = x at *
  have B0 := Below.refl w.heap.size w
  by_cases heq : root k ss = root k (ss.set i leaf)
  case' pos =>
    have HCM := Lib.hid (HCL.out heq)
    clear HCL
    rw [← heq] at HR2
  case' neg =>
    have hq := ne_beq heq
    have hq1 := hq.1
    have hq2 := hq.2
    clear hq HCL
    generalize root k (ss.set i leaf) = t2 at *
  all_goals
    generalize root k ss = t at *
    clear heq
    subst hA
    clear hS hT hsz hd hdiff
    go_enter Tryd.func6, Tryd.ntmps6
    go_wp2_with fail
    refine HTW.out.mono ?_; rintro e w1 ⟨g, d, rfl, hd, hg, ho, C1⟩
    rw [HL.out] at hd ho ⊢
    have T1 := own_strs ho (len_snoc ss mark HL.out)
    have T2 := T1.take n (by omega)
    rw [List.take_left' HL.out] at T2
    obtain ⟨hbg, cur, hrow⟩ := own_row ho
    have hfr := hrow.free i
    obtain ⟨_, hax, _, hcg⟩ := T2.at_ i hi
    obtain rfl := (Option.some.inj hax).symm
    rw [Arr.add_plain, Nat.zero_add] at hcg
    have T3 := HSET.out w1 g T2
    have B1 := (((Grew.of_below C1 none).set ⟨g, i, none⟩ (.inl hg) (.string leaf))).below
    have H4 : Hid (Strs (w1.setCell ⟨g, i, none⟩ (.string leaf)) (some ⟨g, 0, none⟩) n (ss.set i leaf) ∧ Below w.heap.size w (w1.setCell ⟨g, i, none⟩ (.string leaf))) := Lib.hid ⟨T3, B1⟩
    clear ho T1 T2 T3 B1 C1 hrow
    go_wp2_with fail
    refine (HR.out _ H4.out.2).mono ?_; rintro e w2 ⟨rfl, C2⟩
    have B2 := chain H4.out.2 C2
    have S2 := H4.out.1.below C2
    clear C2
    go_wp2_with fail
    refine (HR2.out _ g d B2 S2 (by omega)).mono ?_; rintro e w3 ⟨rfl, C3⟩
    have B3 := chain B2 C3
    have S3 := S2.below C3
    clear C3
  · go_wp2
    go_ret
    exact ⟨by simp, B3⟩
  · go_wp2_with fail
    refine (HCM.out _ g d B3 S3 (by omega)).mono ?_; rintro e w4 ⟨rfl, C4⟩
    have B4 := chain B3 C4
    clear C4
    go_wp2
    go_ret
    exact ⟨by simp, B4⟩
theorem mthChange_walk (k i : Int) (A : Option Addr) (n c : Nat) (ss : List ByteArray) (leaf : ByteArray) (w : World) (_ : (Lit.int .i64 k).wf = true) (_ : (Lit.int .i64 i).wf = true) (hC : Came w A n c ss) (hlf : leaf.size ≤ 140737488351232) (h3 : ∀ i : Nat, i < 8 → w.cell? ⟨2, i, none⟩ = some (.int .u32 (Ints I0.list i))) (h4 : ∀ i : Nat, i < 64 → w.cell? ⟨3, i, none⟩ = some (.int .u32 (Ints K0 i))) :
    Calls Tryd.prog 6 #[.int .i64 k, .int .i64 i, .slice A n c, .string leaf] w fun e w' => e = .returned (.bool true) ∧ Below w.heap.size w w' := by
  have hT := tab_of h3 h4
  by_cases h0 : i < 0
  · exact mthChange_idle k i A n c ss leaf w hC hT (.inl h0)
  · by_cases h1 : (n : Int) ≤ i
    · exact mthChange_idle k i A n c ss leaf w hC hT (.inr (.inl h1))
    · by_cases h2 : ss.getD i.toNat ⟨#[]⟩ = leaf
      · exact mthChange_idle k i A n c ss leaf w hC hT (.inr (.inr ⟨by omega, by omega, h2⟩))
      · obtain ⟨j, rfl⟩ := Int.eq_ofNat_of_zero_le (show 0 ≤ i by omega)
        exact mthChange_real k j A n c ss leaf w hC hlf hT (by omega) (by rw [Int.toNat_natCast] at h2; exact h2)
end Go.Proofs.YtcenfedmbicofaaDoor.Mth
