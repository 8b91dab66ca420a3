/- MthSplit: its walk. -/
import Derived.Test.YtcenfedmbicofaaDoorMthBits
import Derived.Test.YtcenfedmbicofaaDoorMthNode
set_option linter.unusedVariables false
set_option linter.unusedSimpArgs false
namespace Go.Proofs.YtcenfedmbicofaaDoor.Mth
open Go.RowKit Go.Proofs.YtcenfedmbicofaaDoor.Base Go.Proofs.YtcenfedmbicofaaDoor.ShaPlain Go.Proofs.YtcenfedmbicofaaDoor.ShaDig Go.Proofs.YtcenfedmbicofaaDoor.TreeHash Go.Proofs.YtcenfedmbicofaaDoor.Strs Go.Proofs.YtcenfedmbicofaaDoor.Mem Go.Proofs.YtcenfedmbicofaaDoor.Addrs

set_option maxRecDepth 20000 in
set_option maxHeartbeats 4000000 in
theorem mthSplit_nil (k l i : Int) (A : Option Addr) (n c : Nat) (ss : List ByteArray) (w : World) (hC : Came w A n c ss) (hT : Tab w) (hn : n = 0) :
    Calls Tryd.prog 9 #[.int .i64 k, .slice A n c, .agg #[.int .i64 l, .int .i64 i]] w (AllTrue w) := by
  obtain ⟨hS, hnc, hcb, hsz⟩ := hC
  have HL := Lib.hid hS.len
  have HM := Lib.hid (fun W hb => mNode_calls k l i A n c ss W (hS.below hb) hnc (by omega) hsz (hT.below hb))
  have HR : Hid (∀ W, Below w.heap.size w W → Calls Tryd.prog 24 #[.int .i64 k, .slice A n c] W (Gives (root k ss) W)) := Lib.hid fun W hb => mroot_calls k n A n c ss W (Nat.le_refl _) (hS.below hb) hnc (by omega) hsz (hT.below hb)
  have hne := root_some k ss
  have HRW := Lib.hid (Row.new w #[.int .i64 l, .int .i64 i] 40)
  have HB0 := Lib.hid ((Below.refl w.heap.size w).alloc (Nat.le_refl _) (.cells #[.int .i64 l, .int .i64 i] 40))
  subst hn
  obtain rfl : ss = [] := List.eq_nil_of_length_eq_zero HL.out
  have HE : Hid (∀ W, Below w.heap.size w W → Calls Tryd.prog 15 #[.int .i64 k] W (Gives (root k []) W)) := Lib.hid fun W hb => by rw [root_nil]; exact empty_calls k W (hT.below hb)
  by_cases hv : valid l i = true
  · obtain ⟨p0, j, rfl, rfl, hp, hj⟩ := (valid_iff l i).1 hv
    have HSV := Lib.hid (fun W => mSpan_yes p0 j W hp hj)
    obtain ⟨hi, hhi⟩ : ∃ hi : Nat, (j + 1) * 2 ^ p0 = hi := ⟨_, rfl⟩
    obtain ⟨lo, hlo⟩ : ∃ lo : Nat, j * 2 ^ p0 = lo := ⟨_, rfl⟩
    have hlh : lo < hi := by rw [← hhi, ← hlo, Nat.add_mul]; have := Nat.two_pow_pos p0; omega
    have hT1 : nodeT k (p0 : Int) (j : Int) 0 ([] : List ByteArray) = if 0 < hi then ⟨#[]⟩ else root k ((([] : List ByteArray).take hi).drop lo) := by rw [nodeT, if_pos hv, Int.toNat_natCast, Int.toNat_natCast, hhi, hlo]
    have hC1 : nodeC (p0 : Int) (j : Int) 0 = if 0 < hi then 80 else 0 := by rw [nodeC, if_pos hv, Int.toNat_natCast, Int.toNat_natCast, hhi]
    rw [hT1, hC1] at HM
    rw [hhi, hlo] at HSV
    rw [hhi] at hj
    by_cases hle : hi ≤ 0
    · exfalso; omega
    · rw [if_pos (by omega), if_pos (by omega)] at HM
      have hle' : ¬ (hi : Int) ≤ (0 : Int) := by omega
      generalize root k [] = t at *
      clear hS hT hsz hT1 hC1 hv hhi hlo
      go_enter Tryd.func9, Tryd.ntmps9
      go_wp2_with fail
      refine (HR.out _ HB0.out).mono ?_; rintro e w1 ⟨rfl, C1⟩
      have B1 := chain HB0.out C1
      have r1 := HRW.out.below C1 (by simp)
      have ca := r1.cell 0
      have cb := r1.cell 1
      simp at ca cb
      have R1 := Lib.hid r1
      clear C1 r1
      go_wp2_with fail
      refine (HSV.out _).mono ?_; rintro e w2 ⟨rfl, C2⟩
      have B2 := chain B1 C2
      clear C2 B1 ca cb
      go_wp2_with fail
      refine (HE.out _ B2).mono ?_; rintro e w9 ⟨rfl, C9⟩
      have B9 := chain B2 C9
      clear C9
      go_wp2
      go_ret
      exact ⟨by simp, B9⟩
  · rw [Bool.not_eq_true] at hv
    have HSV := Lib.hid (fun W => mSpan_no l i W hv)
    generalize root k [] = t at *
    clear hS hT hsz hv
    go_enter Tryd.func9, Tryd.ntmps9
    go_wp2_with fail
    refine (HR.out _ HB0.out).mono ?_; rintro e w1 ⟨rfl, C1⟩
    have B1 := chain HB0.out C1
    have r1 := HRW.out.below C1 (by simp)
    have ca := r1.cell 0
    have cb := r1.cell 1
    simp at ca cb
    have R1 := Lib.hid r1
    clear C1 r1
    go_wp2_with fail
    refine (HSV.out _).mono ?_; rintro e w2 ⟨rfl, C2⟩
    have B2 := chain B1 C2
    clear C2 B1 ca cb
    go_wp2_with fail
    refine (HE.out _ B2).mono ?_; rintro e w9 ⟨rfl, C9⟩
    have B9 := chain B2 C9
    clear C9
    go_wp2
    go_ret
    exact ⟨by simp, B9⟩
set_option maxRecDepth 20000 in
set_option maxHeartbeats 4000000 in
theorem mthSplit_one (k l i : Int) (A : Option Addr) (n c : Nat) (ss : List ByteArray) (w : World) (hC : Came w A n c ss) (hT : Tab w) (hn : n = 1) :
    Calls Tryd.prog 9 #[.int .i64 k, .slice A n c, .agg #[.int .i64 l, .int .i64 i]] w (AllTrue w) := by
  obtain ⟨hS, hnc, hcb, hsz⟩ := hC
  have HL := Lib.hid hS.len
  have HM := Lib.hid (fun W hb => mNode_calls k l i A n c ss W (hS.below hb) hnc (by omega) hsz (hT.below hb))
  have HR : Hid (∀ W, Below w.heap.size w W → Calls Tryd.prog 24 #[.int .i64 k, .slice A n c] W (Gives (root k ss) W)) := Lib.hid fun W hb => mroot_calls k n A n c ss W (Nat.le_refl _) (hS.below hb) hnc (by omega) hsz (hT.below hb)
  have hne := root_some k ss
  have HRW := Lib.hid (Row.new w #[.int .i64 l, .int .i64 i] 40)
  have HB0 := Lib.hid ((Below.refl w.heap.size w).alloc (Nat.le_refl _) (.cells #[.int .i64 l, .int .i64 i] 40))
  subst hn
  obtain ⟨ad, hA, hab, hcell⟩ := hS.at_ 0 (by omega)
  have HCE := Lib.hid (fun (W : World) (hb : Below w.heap.size w W) => show W.cell? ad = some (.string (ss.getD 0 ⟨#[]⟩)) by rw [hb.cell hab, ← hcell, add_zero])
  have hlf := All.getD (ss := ss) hsz 0
  have HE : Hid (∀ W, Below w.heap.size w W → Calls Tryd.prog 17 #[.int .i64 k, .string (ss.getD 0 ⟨#[]⟩)] W (Gives (root k ss) W)) := Lib.hid fun W hb => by rw [show root k ss = leafH k (ss.getD 0 ⟨#[]⟩) by rw [one_of HL.out, root_one]; rfl]; exact leaf_calls k _ (by omega) W (hT.below hb)
  generalize ss.getD 0 ⟨#[]⟩ = s0 at *
  by_cases hv : valid l i = true
  · obtain ⟨p0, j, rfl, rfl, hp, hj⟩ := (valid_iff l i).1 hv
    have HSV := Lib.hid (fun W => mSpan_yes p0 j W hp hj)
    obtain ⟨hi, hhi⟩ : ∃ hi : Nat, (j + 1) * 2 ^ p0 = hi := ⟨_, rfl⟩
    obtain ⟨lo, hlo⟩ : ∃ lo : Nat, j * 2 ^ p0 = lo := ⟨_, rfl⟩
    have hlh : lo < hi := by rw [← hhi, ← hlo, Nat.add_mul]; have := Nat.two_pow_pos p0; omega
    have hT1 : nodeT k (p0 : Int) (j : Int) 1 ss = if 1 < hi then ⟨#[]⟩ else root k ((ss.take hi).drop lo) := by rw [nodeT, if_pos hv, Int.toNat_natCast, Int.toNat_natCast, hhi, hlo]
    have hC1 : nodeC (p0 : Int) (j : Int) 1 = if 1 < hi then 80 else 0 := by rw [nodeC, if_pos hv, Int.toNat_natCast, Int.toNat_natCast, hhi]
    rw [hT1, hC1] at HM
    rw [hhi, hlo] at HSV
    rw [hhi] at hj
    by_cases hle : hi ≤ 1
    · rw [if_neg (by omega), if_neg (by omega)] at HM
      have HRS : Hid (∀ W, Below w.heap.size w W → Calls Tryd.prog 24 #[.int .i64 k, .slice (cutA A lo c) (hi - lo) (c - lo)] W (Gives (root k ((ss.take hi).drop lo)) W)) := Lib.hid fun W hb => mroot_calls k (hi - lo) (cutA A lo c) (hi - lo) (c - lo) _ W (Nat.le_refl _) ((hS.cut lo hi c (by omega) (by omega) (by omega)).below hb) (by omega) (by omega) (All.drop (All.take hsz _) _) (hT.below hb)
      have hcut3 := fun W => run_cut_lh W A 1 c lo hi (by omega) (by omega)
      have hle' : (hi : Int) ≤ (1 : Int) := by omega
      generalize root k ss = t at *
      generalize root k ((ss.take hi).drop lo) = rs at *
      subst hA
      clear hS hT hsz hcell hT1 hC1 hv hhi hlo
      go_enter Tryd.func9, Tryd.ntmps9
      go_wp2_with fail
      refine (HR.out _ HB0.out).mono ?_; rintro e w1 ⟨rfl, C1⟩
      have B1 := chain HB0.out C1
      have r1 := HRW.out.below C1 (by simp)
      have ca := r1.cell 0
      have cb := r1.cell 1
      simp at ca cb
      have R1 := Lib.hid r1
      clear C1 r1
      go_wp2_with fail
      refine (HSV.out _).mono ?_; rintro e w2 ⟨rfl, C2⟩
      have B2 := chain B1 C2
      have r2 := R1.out.below C2 R1.out.lt
      have cc := r2.cell 0
      have cd := r2.cell 1
      simp at cc cd
      clear C2 B1 r2 ca cb
      go_wp2_with fail
      refine (HM.out _ B2).mono ?_; rintro e w3 ⟨rfl, C3⟩
      have B3 := chain B2 C3
      clear B2 C3 cc cd
      go_wp2_with fail
      refine (HRS.out _ B3).mono ?_; rintro e w4 ⟨rfl, C4⟩
      have B4 := chain B3 C4
      clear B3 C4
      have hcl := HCE.out _ B4
      go_wp2_with fail
      refine (HE.out _ B4).mono ?_; rintro e w9 ⟨rfl, C9⟩
      have B9 := chain B4 C9
      clear C9
      go_wp2
      go_ret
      exact ⟨by simp, B9⟩
    · rw [if_pos (by omega), if_pos (by omega)] at HM
      have hle' : ¬ (hi : Int) ≤ (1 : Int) := by omega
      generalize root k ss = t at *
      subst hA
      clear hS hT hsz hcell hT1 hC1 hv hhi hlo
      go_enter Tryd.func9, Tryd.ntmps9
      go_wp2_with fail
      refine (HR.out _ HB0.out).mono ?_; rintro e w1 ⟨rfl, C1⟩
      have B1 := chain HB0.out C1
      have r1 := HRW.out.below C1 (by simp)
      have ca := r1.cell 0
      have cb := r1.cell 1
      simp at ca cb
      have R1 := Lib.hid r1
      clear C1 r1
      go_wp2_with fail
      refine (HSV.out _).mono ?_; rintro e w2 ⟨rfl, C2⟩
      have B2 := chain B1 C2
      clear C2 B1 ca cb
      have hcl := HCE.out _ B2
      go_wp2_with fail
      refine (HE.out _ B2).mono ?_; rintro e w9 ⟨rfl, C9⟩
      have B9 := chain B2 C9
      clear C9
      go_wp2
      go_ret
      exact ⟨by simp, B9⟩
  · rw [Bool.not_eq_true] at hv
    have HSV := Lib.hid (fun W => mSpan_no l i W hv)
    generalize root k ss = t at *
    subst hA
    clear hS hT hsz hcell hv
    go_enter Tryd.func9, Tryd.ntmps9
    go_wp2_with fail
    refine (HR.out _ HB0.out).mono ?_; rintro e w1 ⟨rfl, C1⟩
    have B1 := chain HB0.out C1
    have r1 := HRW.out.below C1 (by simp)
    have ca := r1.cell 0
    have cb := r1.cell 1
    simp at ca cb
    have R1 := Lib.hid r1
    clear C1 r1
    go_wp2_with fail
    refine (HSV.out _).mono ?_; rintro e w2 ⟨rfl, C2⟩
    have B2 := chain B1 C2
    clear C2 B1 ca cb
    have hcl := HCE.out _ B2
    go_wp2_with fail
    refine (HE.out _ B2).mono ?_; rintro e w9 ⟨rfl, C9⟩
    have B9 := chain B2 C9
    clear C9
    go_wp2
    go_ret
    exact ⟨by simp, B9⟩
set_option maxRecDepth 20000 in
set_option maxHeartbeats 40000000 in
theorem mthSplit_more (k l i : Int) (A : Option Addr) (n c : Nat) (ss : List ByteArray) (w : World) (hC : Came w A n c ss) (hT : Tab w) (hn : 2 ≤ n) :
    Calls Tryd.prog 9 #[.int .i64 k, .slice A n c, .agg #[.int .i64 l, .int .i64 i]] w (AllTrue w) := by
  obtain ⟨hS, hnc, hcb, hsz⟩ := hC
  have HL := Lib.hid hS.len
  have HM := Lib.hid (fun W hb => mNode_calls k l i A n c ss W (hS.below hb) hnc (by omega) hsz (hT.below hb))
  have HR : Hid (∀ W, Below w.heap.size w W → Calls Tryd.prog 24 #[.int .i64 k, .slice A n c] W (Gives (root k ss) W)) := Lib.hid fun W hb => mroot_calls k n A n c ss W (Nat.le_refl _) (hS.below hb) hnc (by omega) hsz (hT.below hb)
  have hne := root_some k ss
  have HRW := Lib.hid (Row.new w #[.int .i64 l, .int .i64 i] 40)
  have HB0 := Lib.hid ((Below.refl w.heap.size w).alloc (Nat.le_refl _) (.cells #[.int .i64 l, .int .i64 i] 40))
  obtain ⟨s1, s2, s3⟩ := sp_spec hn
  have HSP := Lib.hid (fun W => lsplit_calls n hn (by omega) W)
  have hne0 : ((n : Int) == 0) = false := by rw [beq_eq_false_iff_ne]; omega
  have hne1 : ((n : Int) == 1) = false := by rw [beq_eq_false_iff_ne]; omega
  have HRL : Hid (∀ W, Below w.heap.size w W → Calls Tryd.prog 24 #[.int .i64 k, .slice A (sp n) c] W (Gives (root k (ss.take (sp n))) W)) := Lib.hid fun W hb => mroot_calls k n A (sp n) c _ W (by omega) ((hS.take (sp n) (by omega)).below hb) (by omega) (by omega) (All.take hsz _) (hT.below hb)
  have HRR : Hid (∀ W, Below w.heap.size w W → Calls Tryd.prog 24 #[.int .i64 k, .slice (cutA A (sp n) c) (n - sp n) (c - sp n)] W (Gives (root k (ss.drop (sp n))) W)) := Lib.hid fun W hb => mroot_calls k n (cutA A (sp n) c) (n - sp n) (c - sp n) _ W (by omega) ((hS.cut_all (sp n) c (by omega) (by omega)).below hb) (by omega) (by omega) (All.drop hsz _) (hT.below hb)
  have hrt := root_node k ss (by rw [HL.out]; exact hn)
  rw [HL.out] at hrt
  have z1 := Lib.hid (root_size k (ss.take (sp n)))
  have z2 := Lib.hid (root_size k (ss.drop (sp n)))
  have z3 := (wid_le k).2
  have HN : Hid (∀ W, Below w.heap.size w W → Calls Tryd.prog 19 #[.int .i64 k, .string (root k (ss.take (sp n))), .string (root k (ss.drop (sp n)))] W (Gives (root k ss) W)) :=
    Lib.hid fun W hb => by rw [hrt]; exact node_calls k _ _ (by rw [z1.out, z2.out]; omega) W (hT.below hb)
  have hcut1 := fun W => run_cut_h W A n c (sp n) (by omega)
  have hcut2 := fun W => run_cut_l W A n c (sp n) (by omega)
  by_cases hv : valid l i = true
  · obtain ⟨p0, j, rfl, rfl, hp, hj⟩ := (valid_iff l i).1 hv
    have HSV := Lib.hid (fun W => mSpan_yes p0 j W hp hj)
    obtain ⟨hi, hhi⟩ : ∃ hi : Nat, (j + 1) * 2 ^ p0 = hi := ⟨_, rfl⟩
    obtain ⟨lo, hlo⟩ : ∃ lo : Nat, j * 2 ^ p0 = lo := ⟨_, rfl⟩
    have hlh : lo < hi := by rw [← hhi, ← hlo, Nat.add_mul]; have := Nat.two_pow_pos p0; omega
    have hT1 : nodeT k (p0 : Int) (j : Int) n ss = if n < hi then ⟨#[]⟩ else root k ((ss.take hi).drop lo) := by rw [nodeT, if_pos hv, Int.toNat_natCast, Int.toNat_natCast, hhi, hlo]
    have hC1 : nodeC (p0 : Int) (j : Int) n = if n < hi then 80 else 0 := by rw [nodeC, if_pos hv, Int.toNat_natCast, Int.toNat_natCast, hhi]
    rw [hT1, hC1] at HM
    rw [hhi, hlo] at HSV
    rw [hhi] at hj
    by_cases hle : hi ≤ n
    · rw [if_neg (by omega), if_neg (by omega)] at HM
      have HRS : Hid (∀ W, Below w.heap.size w W → Calls Tryd.prog 24 #[.int .i64 k, .slice (cutA A lo c) (hi - lo) (c - lo)] W (Gives (root k ((ss.take hi).drop lo)) W)) := Lib.hid fun W hb => mroot_calls k (hi - lo) (cutA A lo c) (hi - lo) (c - lo) _ W (Nat.le_refl _) ((hS.cut lo hi c (by omega) (by omega) (by omega)).below hb) (by omega) (by omega) (All.drop (All.take hsz _) _) (hT.below hb)
      have hcut3 := fun W => run_cut_lh W A n c lo hi (by omega) (by omega)
      have hle' : (hi : Int) ≤ (n : Int) := by omega
      generalize root k ss = t at *
      generalize root k (ss.take (sp n)) = L at *
      generalize root k (ss.drop (sp n)) = R at *
      generalize sp n = p at *
      generalize root k ((ss.take hi).drop lo) = rs at *
      clear hS hT hsz hrt hT1 hC1 hv hhi hlo
      go_enter Tryd.func9, Tryd.ntmps9
      go_wp2_with fail
      refine (HR.out _ HB0.out).mono ?_; rintro e w1 ⟨rfl, C1⟩
      have B1 := chain HB0.out C1
      have r1 := HRW.out.below C1 (by simp)
      have ca := r1.cell 0
      have cb := r1.cell 1
      simp at ca cb
      have R1 := Lib.hid r1
      clear C1 r1
      go_wp2_with fail
      refine (HSV.out _).mono ?_; rintro e w2 ⟨rfl, C2⟩
      have B2 := chain B1 C2
      have r2 := R1.out.below C2 R1.out.lt
      have cc := r2.cell 0
      have cd := r2.cell 1
      simp at cc cd
      clear C2 B1 r2 ca cb
      go_wp2_with fail
      refine (HM.out _ B2).mono ?_; rintro e w3 ⟨rfl, C3⟩
      have B3 := chain B2 C3
      clear B2 C3 cc cd
      go_wp2_with fail
      refine (HRS.out _ B3).mono ?_; rintro e w4 ⟨rfl, C4⟩
      have B4 := chain B3 C4
      clear B3 C4
      go_wp2_with fail
      refine (HSP.out _).mono ?_; rintro e _ ⟨rfl, rfl⟩
      go_wp2_with fail
      go_region_held3 (fun w' => Below w.heap.size w w') (first | assumption | exact Below.drew (by assumption))
        (first
          | (go_at_call 24; (with_reducible refine (HRL.out _ (by assumption)).mono ?_); rintro e w7 ⟨rfl, C7⟩; have B7 := chain (by assumption) C7; clear C7)
          | (go_at_call 24; (with_reducible refine (HRR.out _ (by assumption)).mono ?_); rintro e w8 ⟨rfl, C8⟩; have B8 := chain (by assumption) C8; clear C8)
          | (go_at_call 19; (with_reducible refine (HN.out _ (by assumption)).mono ?_); rintro e w9 ⟨rfl, C9⟩; have B9 := chain (by assumption) C9; clear C9))
      all_goals
        go_wp2
        go_ret
        exact ⟨by simp, by assumption⟩
    · rw [if_pos (by omega), if_pos (by omega)] at HM
      have hle' : ¬ (hi : Int) ≤ (n : Int) := by omega
      generalize root k ss = t at *
      generalize root k (ss.take (sp n)) = L at *
      generalize root k (ss.drop (sp n)) = R at *
      generalize sp n = p at *
      clear hS hT hsz hrt hT1 hC1 hv hhi hlo
      go_enter Tryd.func9, Tryd.ntmps9
      go_wp2_with fail
      refine (HR.out _ HB0.out).mono ?_; rintro e w1 ⟨rfl, C1⟩
      have B1 := chain HB0.out C1
      have r1 := HRW.out.below C1 (by simp)
      have ca := r1.cell 0
      have cb := r1.cell 1
      simp at ca cb
      have R1 := Lib.hid r1
      clear C1 r1
      go_wp2_with fail
      refine (HSV.out _).mono ?_; rintro e w2 ⟨rfl, C2⟩
      have B2 := chain B1 C2
      clear C2 B1 ca cb
      go_wp2_with fail
      refine (HSP.out _).mono ?_; rintro e _ ⟨rfl, rfl⟩
      go_wp2_with fail
      go_region_held3 (fun w' => Below w.heap.size w w') (first | assumption | exact Below.drew (by assumption))
        (first
          | (go_at_call 24; (with_reducible refine (HRL.out _ (by assumption)).mono ?_); rintro e w7 ⟨rfl, C7⟩; have B7 := chain (by assumption) C7; clear C7)
          | (go_at_call 24; (with_reducible refine (HRR.out _ (by assumption)).mono ?_); rintro e w8 ⟨rfl, C8⟩; have B8 := chain (by assumption) C8; clear C8)
          | (go_at_call 19; (with_reducible refine (HN.out _ (by assumption)).mono ?_); rintro e w9 ⟨rfl, C9⟩; have B9 := chain (by assumption) C9; clear C9))
      all_goals
        go_wp2
        go_ret
        exact ⟨by simp, by assumption⟩
  · rw [Bool.not_eq_true] at hv
    have HSV := Lib.hid (fun W => mSpan_no l i W hv)
    generalize root k ss = t at *
    generalize root k (ss.take (sp n)) = L at *
    generalize root k (ss.drop (sp n)) = R at *
    generalize sp n = p at *
    clear hS hT hsz hrt hv
    go_enter Tryd.func9, Tryd.ntmps9
    go_wp2_with fail
    refine (HR.out _ HB0.out).mono ?_; rintro e w1 ⟨rfl, C1⟩
    have B1 := chain HB0.out C1
    have r1 := HRW.out.below C1 (by simp)
    have ca := r1.cell 0
    have cb := r1.cell 1
    simp at ca cb
    have R1 := Lib.hid r1
    clear C1 r1
    go_wp2_with fail
    refine (HSV.out _).mono ?_; rintro e w2 ⟨rfl, C2⟩
    have B2 := chain B1 C2
    clear C2 B1 ca cb
    go_wp2_with fail
    refine (HSP.out _).mono ?_; rintro e _ ⟨rfl, rfl⟩
    go_wp2_with fail
    go_region_held3 (fun w' => Below w.heap.size w w') (first | assumption | exact Below.drew (by assumption))
      (first
        | (go_at_call 24; (with_reducible refine (HRL.out _ (by assumption)).mono ?_); rintro e w7 ⟨rfl, C7⟩; have B7 := chain (by assumption) C7; clear C7)
        | (go_at_call 24; (with_reducible refine (HRR.out _ (by assumption)).mono ?_); rintro e w8 ⟨rfl, C8⟩; have B8 := chain (by assumption) C8; clear C8)
        | (go_at_call 19; (with_reducible refine (HN.out _ (by assumption)).mono ?_); rintro e w9 ⟨rfl, C9⟩; have B9 := chain (by assumption) C9; clear C9))
    all_goals
      go_wp2
      go_ret
      exact ⟨by simp, by assumption⟩
theorem mthSplit_walk (k : Int) (A : Option Addr) (n c : Nat) (ss : List ByteArray) (l i : Int) (w : World) (_ : (Lit.int .i64 k).wf = true) (hC : Came w A n c ss) (_ : (Lit.int .i64 l).wf = true) (_ : (Lit.int .i64 i).wf = true) (h3 : ∀ i : Nat, i < 8 → w.cell? ⟨2, i, none⟩ = some (.int .u32 (Ints I0.list i))) (h4 : ∀ i : Nat, i < 64 → w.cell? ⟨3, i, none⟩ = some (.int .u32 (Ints K0 i))) :
    Calls Tryd.prog 9 #[.int .i64 k, .slice A n c, .agg #[.int .i64 l, .int .i64 i]] w fun e w' => e = .returned (.bool true) ∧ Below w.heap.size w w' := by
  have hT := tab_of h3 h4
  by_cases h0 : n = 0
  · exact mthSplit_nil k l i A n c ss w hC hT h0
  · by_cases h1 : n = 1
    · exact mthSplit_one k l i A n c ss w hC hT h1
    · exact mthSplit_more k l i A n c ss w hC hT (by omega)
end Go.Proofs.YtcenfedmbicofaaDoor.Mth
