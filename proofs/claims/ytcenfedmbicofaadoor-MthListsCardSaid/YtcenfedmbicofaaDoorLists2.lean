/- renewed: its walk. -/
import Derived.Test.YtcenfedmbicofaaDoorLists1
set_option linter.unusedVariables false
set_option linter.unusedSimpArgs false
namespace Go.Proofs.YtcenfedmbicofaaDoor.Mth
open Go.RowKit Go.Proofs.YtcenfedmbicofaaDoor.Base Go.Proofs.YtcenfedmbicofaaDoor.ShaPlain Go.Proofs.YtcenfedmbicofaaDoor.ShaDig Go.Proofs.YtcenfedmbicofaaDoor.TreeHash Go.Proofs.YtcenfedmbicofaaDoor.Strs Go.Proofs.YtcenfedmbicofaaDoor.Mem Go.Proofs.YtcenfedmbicofaaDoor.Fam

abbrev nx (s : ByteArray) : ByteArray := s ++ (⟨#[110]⟩ : ByteArray)
theorem ren_set (ss : List ByteArray) (j : Nat) (hj : j < ss.length) : ((ss.map nx).take j ++ ss.drop j).getD j ⟨#[]⟩ = ss.getD j ⟨#[]⟩ ∧ ((ss.map nx).take j ++ ss.drop j).set j (nx (ss.getD j ⟨#[]⟩)) = (ss.map nx).take (j + 1) ++ ss.drop (j + 1) := by
  have hl : ((ss.map nx).take j).length = j := by rw [List.length_take, List.length_map]; omega
  have hd : ss.drop j = ss.getD j ⟨#[]⟩ :: ss.drop (j + 1) := by
    rw [List.drop_eq_getElem_cons hj]; simp [List.getD_eq_getElem?_getD, hj]
  have ht : (ss.map nx).take (j + 1) = (ss.map nx).take j ++ [nx (ss.getD j ⟨#[]⟩)] := by
    rw [List.take_succ_eq_append_getElem (by rw [List.length_map]; exact hj)]; simp [List.getD_eq_getElem?_getD, hj]
  refine ⟨?_, ?_⟩
  · rw [List.getD_eq_getElem?_getD, List.getElem?_append_right (by omega), hl, Nat.sub_self, hd]; rfl
  · rw [List.set_append_right _ _ (by omega), hl, Nat.sub_self, hd, List.set_cons_zero, ht, List.append_assoc]; rfl
set_option maxRecDepth 100000 in
set_option maxHeartbeats 8000000 in
theorem renewed_calls (k i m : Int) (A : Option Addr) (n c : Nat) (ss : List ByteArray) (w : World) (hS : Strs w A n ss) (hn : n ≤ 8796093022207) (hu : ∀ s ∈ ss, s.size ≤ 140737488351232) (hT : Tab w) (hR : RTab w) :
    Calls Tryd.prog 41 #[.int .i64 k, .int .i64 i, .int .i64 m, .slice A n c] w (fun e w' => e = .returned (.bool true) ∧ Below w.heap.size w w') := by
  have hl := hS.len
  have ha1 : All ss := fun s h => by have := hu s h; omega
  have ha2 : All (ss.map nx) := fun s h => by
    obtain ⟨x, hx, rfl⟩ := List.mem_map.1 h
    have := hu x hx
    rw [size_app]; show x.size + 1 ≤ _; omega
  have HS := Lib.hid hS
  have HL := Lib.hid hl
  have HU := Lib.hid hu
  have HP1 : Hid ((pathL k i (ss)).length ≤ n) := Lib.hid (by have := pathL_len k i (ss); simpa [hl] using this)
  have HQ1 : Hid ((prfL k m (ss)).length ≤ n) := Lib.hid (by have := prfL_len k m (ss); simpa [hl] using this)
  have HA : Hid (∀ W B d, Below w.heap.size w W → Strs W B n (ss) → n ≤ d → Calls Tryd.prog 29 #[.int .i64 k, .int .i64 i, .slice B n d] W (Pair (pathL k i (ss)) (pathR i n) W)) := Lib.hid (fun W B d hb hs hd => rPath_calls k i B n d _ W hs hd (by omega) ha1 (hR.below hb))
  have HB : Hid (∀ W B d, Below w.heap.size w W → Strs W B n (ss) → n ≤ d → Calls Tryd.prog 28 #[.int .i64 k, .int .i64 i, .slice B n d] W (Pair (pathL k i (ss)) (pathR i n) W)) := Lib.hid (fun W B d hb hs hd => mPath_calls k i B n d _ W hs hd (by omega) ha1 (hT.below hb))
  have HC : Hid (∀ W B d, Below w.heap.size w W → Strs W B n (ss) → n ≤ d → Calls Tryd.prog 37 #[.int .i64 k, .int .i64 m, .slice B n d] W (Pair (prfL k m (ss)) (prfR m n) W)) := Lib.hid (fun W B d hb hs hd => rProof_calls k m B n d _ W hs hd (by omega) ha1 (hR.below hb))
  have HD : Hid (∀ W B d, Below w.heap.size w W → Strs W B n (ss) → n ≤ d → Calls Tryd.prog 36 #[.int .i64 k, .int .i64 m, .slice B n d] W (Pair (prfL k m (ss)) (prfR m n) W)) := Lib.hid (fun W B d hb hs hd => mProof_calls k m B n d _ W hs hd (by omega) ha1 (hT.below hb))
  have HE : Hid (∀ W B d, Below w.heap.size w W → Strs W B n (ss) → n ≤ d → Calls Tryd.prog 24 #[.int .i64 k, .slice B n d] W (Gives (root k (ss)) W)) := Lib.hid (fun W B d hb hs hd => mroot_calls k n B n d _ W (Nat.le_refl _) hs hd (by omega) ha1 (hT.below hb))
  have HG : Hid (∀ W B d, Below w.heap.size w W → Strs W B n (ss) → n ≤ d → Calls Tryd.prog 25 #[.int .i64 k, .slice B n d] W (Gives (root k (ss)) W)) := Lib.hid (fun W B d hb hs hd => rroot_calls k n B n d _ W (Nat.le_refl _) hs hd (by omega) ha1 (hR.below hb))
  have HP2 : Hid ((pathL k i (ss.map nx)).length ≤ n) := Lib.hid (by have := pathL_len k i (ss.map nx); simpa [hl] using this)
  have HQ2 : Hid ((prfL k m (ss.map nx)).length ≤ n) := Lib.hid (by have := prfL_len k m (ss.map nx); simpa [hl] using this)
  have HXa : Hid (∀ W B d, Below w.heap.size w W → Strs W B n (ss.map nx) → n ≤ d → Calls Tryd.prog 29 #[.int .i64 k, .int .i64 i, .slice B n d] W (Pair (pathL k i (ss.map nx)) (pathR i n) W)) := Lib.hid (fun W B d hb hs hd => rPath_calls k i B n d _ W hs hd (by omega) ha2 (hR.below hb))
  have HXb : Hid (∀ W B d, Below w.heap.size w W → Strs W B n (ss.map nx) → n ≤ d → Calls Tryd.prog 28 #[.int .i64 k, .int .i64 i, .slice B n d] W (Pair (pathL k i (ss.map nx)) (pathR i n) W)) := Lib.hid (fun W B d hb hs hd => mPath_calls k i B n d _ W hs hd (by omega) ha2 (hT.below hb))
  have HXc : Hid (∀ W B d, Below w.heap.size w W → Strs W B n (ss.map nx) → n ≤ d → Calls Tryd.prog 37 #[.int .i64 k, .int .i64 m, .slice B n d] W (Pair (prfL k m (ss.map nx)) (prfR m n) W)) := Lib.hid (fun W B d hb hs hd => rProof_calls k m B n d _ W hs hd (by omega) ha2 (hR.below hb))
  have HXd : Hid (∀ W B d, Below w.heap.size w W → Strs W B n (ss.map nx) → n ≤ d → Calls Tryd.prog 36 #[.int .i64 k, .int .i64 m, .slice B n d] W (Pair (prfL k m (ss.map nx)) (prfR m n) W)) := Lib.hid (fun W B d hb hs hd => mProof_calls k m B n d _ W hs hd (by omega) ha2 (hT.below hb))
  have HXe : Hid (∀ W B d, Below w.heap.size w W → Strs W B n (ss.map nx) → n ≤ d → Calls Tryd.prog 24 #[.int .i64 k, .slice B n d] W (Gives (root k (ss.map nx)) W)) := Lib.hid (fun W B d hb hs hd => mroot_calls k n B n d _ W (Nat.le_refl _) hs hd (by omega) ha2 (hT.below hb))
  have HXf : Hid (∀ W B d, Below w.heap.size w W → Strs W B n (ss.map nx) → n ≤ d → Calls Tryd.prog 25 #[.int .i64 k, .slice B n d] W (Gives (root k (ss.map nx)) W)) := Lib.hid (fun W B d hb hs hd => rroot_calls k n B n d _ W (Nat.le_refl _) hs hd (by omega) ha2 (hR.below hb))
  have hl2 : (ss.map nx).length = n := by rw [List.length_map, hl]
  obtain ⟨s2, hs2⟩ : ∃ s2, ss.map nx = s2 := ⟨_, rfl⟩
  have HS2 := Lib.hid hs2
  rw [hs2] at HP2 HQ2 hl2 HXa HXb HXc HXd HXe HXf
  have HL2 := Lib.hid hl2
  clear hS hu hT hR ha1 ha2 hl hs2 hl2
  go_enter Tryd.func41, Tryd.ntmps41
  generalize pathL k i ss = P1 at *
  generalize prfL k m ss = Q1 at *
  generalize root k ss = R1 at *
  generalize pathL k i s2 = P2 at *
  generalize prfL k m s2 = Q2 at *
  generalize root k s2 = R2 at *
  generalize pathR i n = pr at *
  generalize prfR m n = qr at *
  go_wp2_with (at_builtin; refine wpList_appRow (w0 := w) w.heap.size rfl (.tmp 32) (.tmp 33) rfl _ [] ss A n c rfl rfl (Own.nil _ _) HS.out (Below.refl _ _) (Nat.le_refl _) (by simp; omega) ?_; intro v1 w1 ho hb _ _; rw [List.nil_append] at ho; obtain ⟨B, D, e1, hD, hs1⟩ := ho.shape; rw [HL.out] at e1 hD hs1; subst e1; have HF : Hid (Fm w [(.slice B n D, ss)] w1) := Lib.hid ((Fm.nil (Below.refl _ w)).add hb ho); have HI := Lib.hid (And.intro hs1 hD); clear ho hb hs1 hD)
  refine (HA.out _ _ _ HF.out.bel HI.out.1 HI.out.2).mono ?_
  rintro e wa ⟨v, rfl, O, C⟩
  obtain ⟨Aa, ca, rfl, _, _⟩ := O.shape
  replace HF : Hid (Fm w [(.slice B n D, ss), (.slice Aa P1.length ca, P1)] wa) := Lib.hid (HF.out.add C O)
  replace HI := Lib.hid (And.intro (HI.out.1.below C) HI.out.2)
  clear O C
  go_wp2_with fail
  refine (HB.out _ _ _ HF.out.bel HI.out.1 HI.out.2).mono ?_
  rintro e wp ⟨v, rfl, O, C⟩
  obtain ⟨Ap, cp, rfl, _, _⟩ := O.shape
  replace HF : Hid (Fm w [(.slice B n D, ss), (.slice Aa P1.length ca, P1), (.slice Ap P1.length cp, P1)] wp) := Lib.hid (HF.out.add C O)
  replace HI := Lib.hid (And.intro (HI.out.1.below C) HI.out.2)
  clear O C
  go_wp2_with fail
  refine (HC.out _ _ _ HF.out.bel HI.out.1 HI.out.2).mono ?_
  rintro e wb ⟨v, rfl, O, C⟩
  obtain ⟨Ab, cb, rfl, _, _⟩ := O.shape
  replace HF : Hid (Fm w [(.slice B n D, ss), (.slice Aa P1.length ca, P1), (.slice Ap P1.length cp, P1), (.slice Ab Q1.length cb, Q1)] wb) := Lib.hid (HF.out.add C O)
  replace HI := Lib.hid (And.intro (HI.out.1.below C) HI.out.2)
  clear O C
  go_wp2_with fail
  refine (HD.out _ _ _ HF.out.bel HI.out.1 HI.out.2).mono ?_
  rintro e wq ⟨v, rfl, O, C⟩
  obtain ⟨Aq, cq, rfl, _, _⟩ := O.shape
  replace HF : Hid (Fm w [(.slice B n D, ss), (.slice Aa P1.length ca, P1), (.slice Ap P1.length cp, P1), (.slice Ab Q1.length cb, Q1), (.slice Aq Q1.length cq, Q1)] wq) := Lib.hid (HF.out.add C O)
  replace HI := Lib.hid (And.intro (HI.out.1.below C) HI.out.2)
  clear O C
  go_wp2_with fail
  refine (HE.out _ _ _ HF.out.bel HI.out.1 HI.out.2).mono ?_
  rintro e wr ⟨rfl, C⟩
  replace HF := Lib.hid (HF.out.call C)
  replace HI := Lib.hid (And.intro (HI.out.1.below C) HI.out.2)
  clear C
  go_wp2_with fail
  refine (HG.out _ _ _ HF.out.bel HI.out.1 HI.out.2).mono ?_
  rintro e wc ⟨rfl, C⟩
  replace HF := Lib.hid (HF.out.call C)
  replace HI := Lib.hid (And.intro (HI.out.1.below C) HI.out.2)
  clear C
  clear HA HB HC HD HE HG HI
  go_wp2_with fail
  go_loopw [20] (fun s20 wr => ∃ j : Nat, s20 = .int .i64 (j : Int) ∧ j ≤ n ∧ Hid (Fm w ((.slice B n D, s2.take j ++ ss.drop j) :: [(.slice Aa P1.length ca, P1), (.slice Ap P1.length cp, P1), (.slice Ab Q1.length cb, Q1), (.slice Aq Q1.length cq, Q1)]) wr)) (fun s20 _ => n - (intOf s20).toNat)
  case atStart => exact ⟨0, rfl, Nat.zero_le _, by rw [List.take_zero, List.drop_zero, List.nil_append]; exact HF⟩
  case round =>
    clear HF
    obtain ⟨j, rfl, hj, hr⟩ := hrel
    by_cases hlt : j < n
    · have ho := hr.out.own 0 (by simp)
      obtain ⟨g, hg, _, _⟩ := block_of (B := B) (n := n) (c := D) ho (by omega)
      subst hg
      obtain ⟨cc, fc⟩ := cell_of (g := g) (n := n) (c := D) ho j hlt
      obtain ⟨g1, g2⟩ := ren_set ss j (by rw [HL.out]; exact hlt)
      rw [HS2.out] at g1 g2
      have hx : (ss.getD j ⟨#[]⟩).size ≤ 140737488351232 := by
        rw [List.getD_eq_getElem?_getD, List.getElem?_eq_getElem (by rw [HL.out]; exact hlt)]
        exact HU.out _ (List.getElem_mem _)
      have cc2 : wr.cell? ⟨g, j, none⟩ = some (.string (ss.getD j ⟨#[]⟩)) := cc.trans (congrArg (fun x => some (Value.string x)) g1)
      have hnw := hr.out.write (k := 0) (g := g) (n := n) (c := D) (by simp) rfl j (nx (ss.getD j ⟨#[]⟩))
      have HN : Hid (Fm w ((.slice (some ⟨g, 0, none⟩) n D, s2.take (j + 1) ++ ss.drop (j + 1)) :: [(.slice Aa P1.length ca, P1), (.slice Ap P1.length cp, P1), (.slice Ab Q1.length cb, Q1), (.slice Aq Q1.length cq, Q1)]) (wr.setCell ⟨g, j, none⟩ (.string (nx (ss.getD j ⟨#[]⟩))))) := Lib.hid (g2 ▸ hnw)
      have hX : (⟨g, 0, none⟩ : Addr).add j = ⟨g, j, none⟩ := Arr.add_plain g j 0 |>.trans (by rw [Nat.zero_add])
      have j0 : (0 : Int) ≤ (j : Int) := by omega
      have j1 : (j : Int) < (n : Int) := by omega
      clear ho cc g1 g2 hnw hr
      generalize ss.getD j ⟨#[]⟩ = x at *
      go_wp2
      go_roundw
      case rel => exact ⟨j + 1, by go_num, by omega, HN⟩
      case measure => simp only [intOf]; omega
    · obtain rfl : j = n := by omega
      have hF := hr.out
      rw [List.take_of_length_le (by rw [HL2.out]; omega), List.drop_eq_nil_of_le (by rw [HL.out]; omega), List.append_nil] at hF
      have HF : Hid (Fm w ((.slice B j D, s2) :: [(.slice Aa P1.length ca, P1), (.slice Ap P1.length cp, P1), (.slice Ab Q1.length cb, Q1), (.slice Aq Q1.length cq, Q1)]) wr) := Lib.hid hF
      have HI := Lib.hid (strs_of (B := B) (n := j) (c := D) (hF.own 0 (by simp)))
      clear hr hF
      go_wp2_with fail
      refine (HXa.out _ _ _ HF.out.bel HI.out.1 HI.out.2).mono ?_
      rintro e wa2 ⟨v, rfl, O, C⟩
      obtain ⟨Aa2, ca2, rfl, _, _⟩ := O.shape
      replace HF : Hid (Fm w [(.slice B j D, s2), (.slice Aa P1.length ca, P1), (.slice Ap P1.length cp, P1), (.slice Ab Q1.length cb, Q1), (.slice Aq Q1.length cq, Q1), (.slice Aa2 P2.length ca2, P2)] wa2) := Lib.hid (HF.out.add C O)
      replace HI := Lib.hid (And.intro (HI.out.1.below C) HI.out.2)
      clear O C
      go_wp2_with fail
      refine (HXb.out _ _ _ HF.out.bel HI.out.1 HI.out.2).mono ?_
      rintro e wp2 ⟨v, rfl, O, C⟩
      obtain ⟨Ap2, cp2, rfl, _, _⟩ := O.shape
      replace HF : Hid (Fm w [(.slice B j D, s2), (.slice Aa P1.length ca, P1), (.slice Ap P1.length cp, P1), (.slice Ab Q1.length cb, Q1), (.slice Aq Q1.length cq, Q1), (.slice Aa2 P2.length ca2, P2), (.slice Ap2 P2.length cp2, P2)] wp2) := Lib.hid (HF.out.add C O)
      replace HI := Lib.hid (And.intro (HI.out.1.below C) HI.out.2)
      clear O C
      go_wp2_with fail
      refine (HXc.out _ _ _ HF.out.bel HI.out.1 HI.out.2).mono ?_
      rintro e wb2 ⟨v, rfl, O, C⟩
      obtain ⟨Ab2, cb2, rfl, _, _⟩ := O.shape
      replace HF : Hid (Fm w [(.slice B j D, s2), (.slice Aa P1.length ca, P1), (.slice Ap P1.length cp, P1), (.slice Ab Q1.length cb, Q1), (.slice Aq Q1.length cq, Q1), (.slice Aa2 P2.length ca2, P2), (.slice Ap2 P2.length cp2, P2), (.slice Ab2 Q2.length cb2, Q2)] wb2) := Lib.hid (HF.out.add C O)
      replace HI := Lib.hid (And.intro (HI.out.1.below C) HI.out.2)
      clear O C
      go_wp2_with fail
      refine (HXd.out _ _ _ HF.out.bel HI.out.1 HI.out.2).mono ?_
      rintro e wq2 ⟨v, rfl, O, C⟩
      obtain ⟨Aq2, cq2, rfl, _, _⟩ := O.shape
      replace HF : Hid (Fm w [(.slice B j D, s2), (.slice Aa P1.length ca, P1), (.slice Ap P1.length cp, P1), (.slice Ab Q1.length cb, Q1), (.slice Aq Q1.length cq, Q1), (.slice Aa2 P2.length ca2, P2), (.slice Ap2 P2.length cp2, P2), (.slice Ab2 Q2.length cb2, Q2), (.slice Aq2 Q2.length cq2, Q2)] wq2) := Lib.hid (HF.out.add C O)
      replace HI := Lib.hid (And.intro (HI.out.1.below C) HI.out.2)
      clear O C
      go_wp2_with fail
      refine (HXe.out _ _ _ HF.out.bel HI.out.1 HI.out.2).mono ?_
      rintro e wr2 ⟨rfl, C⟩
      replace HF := Lib.hid (HF.out.call C)
      replace HI := Lib.hid (And.intro (HI.out.1.below C) HI.out.2)
      clear C
      go_wp2_with fail
      refine (HXf.out _ _ _ HF.out.bel HI.out.1 HI.out.2).mono ?_
      rintro e wc2 ⟨rfl, C⟩
      replace HF := Lib.hid (HF.out.call C)
      replace HI := Lib.hid (And.intro (HI.out.1.below C) HI.out.2)
      clear C
      go_wp2_with fail
      refine (same_calls Ap Aa P1.length P1.length cp ca P1 P1 _ (strs_of (c := cp) (HF.out.own 2 (by simp))).1 (strs_of (c := ca) (HF.out.own 1 (by simp))).1 (by have := HP1.out; omega) (by have := HP1.out; omega) true (by simp)).mono ?_
      rintro e wS1 ⟨rfl, C⟩
      replace HF := Lib.hid (HF.out.call C)
      clear C
      go_wp2_with fail
      refine (same_calls Aq Ab Q1.length Q1.length cq cb Q1 Q1 _ (strs_of (c := cq) (HF.out.own 4 (by simp))).1 (strs_of (c := cb) (HF.out.own 3 (by simp))).1 (by have := HQ1.out; omega) (by have := HQ1.out; omega) true (by simp)).mono ?_
      rintro e wS2 ⟨rfl, C⟩
      replace HF := Lib.hid (HF.out.call C)
      clear C
      go_wp2_with fail
      refine (same_calls Ap2 Aa2 P2.length P2.length cp2 ca2 P2 P2 _ (strs_of (c := cp2) (HF.out.own 6 (by simp))).1 (strs_of (c := ca2) (HF.out.own 5 (by simp))).1 (by have := HP2.out; omega) (by have := HP2.out; omega) true (by simp)).mono ?_
      rintro e wS3 ⟨rfl, C⟩
      replace HF := Lib.hid (HF.out.call C)
      clear C
      go_wp2_with fail
      refine (same_calls Aq2 Ab2 Q2.length Q2.length cq2 cb2 Q2 Q2 _ (strs_of (c := cq2) (HF.out.own 8 (by simp))).1 (strs_of (c := cb2) (HF.out.own 7 (by simp))).1 (by have := HQ2.out; omega) (by have := HQ2.out; omega) true (by simp)).mono ?_
      rintro e wS4 ⟨rfl, C⟩
      replace HF := Lib.hid (HF.out.call C)
      clear C
      go_wp2_with fail
      go_ret
      exact ⟨by simp, HF.out.bel⟩
end Go.Proofs.YtcenfedmbicofaaDoor.Mth
