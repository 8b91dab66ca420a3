/- clash, MthChange: their walks. -/
import Derived.Test.YtcenfedmbicofaaDoorMthClash1
set_option linter.unusedVariables false
set_option linter.unusedSimpArgs false
namespace Go.Proofs.YtcenfedmbicofaaDoor.Mth
open Go.RowKit Go.Proofs.YtcenfedmbicofaaDoor.Base Go.Proofs.YtcenfedmbicofaaDoor.ShaPlain Go.Proofs.YtcenfedmbicofaaDoor.ShaDig Go.Proofs.YtcenfedmbicofaaDoor.TreeHash Go.Proofs.YtcenfedmbicofaaDoor.Strs Go.Proofs.YtcenfedmbicofaaDoor.Mem

set_option maxRecDepth 20000 in
set_option maxHeartbeats 40000000 in
theorem clash_calls (k : Int) (q : Nat) : ∀ (n : Nat) (A : Option Addr) (c : Nat) (B : Option Addr) (d : Nat) (xs ys : List ByteArray) (w : World), n ≤ q → 1 ≤ n → n ≤ 10000000000000 → Strs w A n xs → Strs w B n ys → n ≤ c → n ≤ d → All xs → All ys → xs ≠ ys → root k xs = root k ys → Tab w →
    Calls Tryd.prog 27 #[.int .i64 k, .slice A n c, .slice B n d] w (AllTrue w) := by
  induction q with
  | zero => intro n A c B d xs ys w hq h1; omega
  | succ q ih =>
    intro n A c B d xs ys w hq h1 hn ha hb hc hd ax ay hne hr hT
    by_cases hone : n = 1
    · subst hone
      exact clash_one k A c B d xs ys w ha hb ax ay hne hr hT
    · have h2 : 2 ≤ n := by omega
      have lx := ha.len
      have ly := hb.len
      obtain ⟨s1, s2, s3⟩ := sp_spec h2
      have hne1 : ((n : Int) == 1) = false := by rw [beq_eq_false_iff_ne]; omega
      have HSP := Lib.hid (fun W => lsplit_calls n h2 (by omega) W)
      have rx := root_node k xs (by omega)
      have ry := root_node k ys (by omega)
      rw [lx] at rx
      rw [ly] at ry
      have HXL : Hid (∀ W, Below w.heap.size w W → Calls Tryd.prog 24 #[.int .i64 k, .slice A (sp n) c] W (Gives (root k (xs.take (sp n))) W)) := Lib.hid fun W hb => mroot_calls k n A (sp n) c _ W (by omega) ((ha.take (sp n) (by omega)).below hb) (by omega) (by omega) (All.take ax _) (hT.below hb)
      have HXR : Hid (∀ W, Below w.heap.size w W → Calls Tryd.prog 24 #[.int .i64 k, .slice (cutA A (sp n) c) (n - sp n) (c - sp n)] W (Gives (root k (xs.drop (sp n))) W)) := Lib.hid fun W hb => mroot_calls k n (cutA A (sp n) c) (n - sp n) (c - sp n) _ W (by omega) ((ha.cut_all (sp n) c (by omega) (by omega)).below hb) (by omega) (by omega) (All.drop ax _) (hT.below hb)
      have HYL : Hid (∀ W, Below w.heap.size w W → Calls Tryd.prog 24 #[.int .i64 k, .slice B (sp n) d] W (Gives (root k (ys.take (sp n))) W)) := Lib.hid fun W hB => mroot_calls k n B (sp n) d _ W (by omega) ((hb.take (sp n) (by omega)).below hB) (by omega) (by omega) (All.take ay _) (hT.below hB)
      have HYR : Hid (∀ W, Below w.heap.size w W → Calls Tryd.prog 24 #[.int .i64 k, .slice (cutA B (sp n) d) (n - sp n) (d - sp n)] W (Gives (root k (ys.drop (sp n))) W)) := Lib.hid fun W hB => mroot_calls k n (cutA B (sp n) d) (n - sp n) (d - sp n) _ W (by omega) ((hb.cut_all (sp n) d (by omega) (by omega)).below hB) (by omega) (by omega) (All.drop ay _) (hT.below hB)
      have zxl := root_size k (xs.take (sp n))
      have zxr := root_size k (xs.drop (sp n))
      have zyl := root_size k (ys.take (sp n))
      have zyr := root_size k (ys.drop (sp n))
      have z3 := (wid_le k).2
      have hcx1 := fun W => run_cut_h W A n c (sp n) (by omega)
      have hcx2 := fun W => run_cut_l W A n c (sp n) (by omega)
      have hcy1 := fun W => run_cut_h W B n d (sp n) (by omega)
      have hcy2 := fun W => run_cut_l W B n d (sp n) (by omega)
      have B0 := Below.refl w.heap.size w
      have key : (root k (xs.take (sp n)) ++ root k (xs.drop (sp n)) ≠ root k (ys.take (sp n)) ++ root k (ys.drop (sp n)) ∧
          cut k ((⟨#[1]⟩ : ByteArray) ++ (root k (xs.take (sp n)) ++ root k (xs.drop (sp n)))) = cut k ((⟨#[1]⟩ : ByteArray) ++ (root k (ys.take (sp n)) ++ root k (ys.drop (sp n))))) ∨
          (root k (xs.take (sp n)) = root k (ys.take (sp n)) ∧ root k (xs.drop (sp n)) = root k (ys.drop (sp n))) := by
        by_cases he : root k (xs.take (sp n)) ++ root k (xs.drop (sp n)) = root k (ys.take (sp n)) ++ root k (ys.drop (sp n))
        · exact .inr (app_inj he (by rw [zxl, zyl]))
        · refine .inl ⟨he, ?_⟩
          rw [rx, ry, nodeH, nodeH, ByteArray.append_assoc, ByteArray.append_assoc] at hr
          exact hr
      rcases key with ⟨hne2, hcq⟩ | ⟨hl, hR⟩
      · have sz1 := size_app (root k (xs.take (sp n))) (root k (xs.drop (sp n)))
        have sz2 := size_app (root k (ys.take (sp n))) (root k (ys.drop (sp n)))
        have sz3 := size_app (⟨#[1]⟩ : ByteArray) (root k (xs.take (sp n)) ++ root k (xs.drop (sp n)))
        have sz4 := size_app (⟨#[1]⟩ : ByteArray) (root k (ys.take (sp n)) ++ root k (ys.drop (sp n)))
        have sz5 : (⟨#[1]⟩ : ByteArray).size = 1 := rfl
        have HX : Hid (∀ W, Below w.heap.size w W → Calls Tryd.prog 50 #[.string ((⟨#[1]⟩ : ByteArray) ++ (root k (xs.take (sp n)) ++ root k (xs.drop (sp n)))), .int .i64 k] W (Gives (cut k ((⟨#[1]⟩ : ByteArray) ++ (root k (xs.take (sp n)) ++ root k (xs.drop (sp n))))) W)) := Lib.hid fun W hb => shaCut_calls _ (by omega) k W (hT.below hb)
        have HY : Hid (∀ W, Below w.heap.size w W → Calls Tryd.prog 50 #[.string ((⟨#[1]⟩ : ByteArray) ++ (root k (ys.take (sp n)) ++ root k (ys.drop (sp n)))), .int .i64 k] W (Gives (cut k ((⟨#[1]⟩ : ByteArray) ++ (root k (xs.take (sp n)) ++ root k (xs.drop (sp n))))) W)) := Lib.hid fun W hb => by rw [hcq]; exact shaCut_calls _ (by omega) k W (hT.below hb)
        generalize cut k ((⟨#[1]⟩ : ByteArray) ++ (root k (xs.take (sp n)) ++ root k (xs.drop (sp n)))) = t at *
        generalize root k (xs.take (sp n)) = XL at *
        generalize root k (xs.drop (sp n)) = XR at *
        generalize root k (ys.take (sp n)) = YL at *
        generalize root k (ys.drop (sp n)) = YR at *
        obtain ⟨e1, e2⟩ := ne_beq hne2
        have hm1 : ¬ 9223372036854775807 < XL.size + XR.size := by omega
        have hm2 : ¬ 9223372036854775807 < YL.size + YR.size := by omega
        have hm3 : ¬ 9223372036854775807 < 1 + (XL.size + XR.size) := by omega
        have hm4 : ¬ 9223372036854775807 < 1 + (YL.size + YR.size) := by omega
        have hm5 : ¬ 9223372036854775807 < 1 + (XL ++ XR).size := by omega
        have hm6 : ¬ 9223372036854775807 < 1 + (YL ++ YR).size := by omega
        generalize sp n = p at *
        clear ha hb ax ay hne hr hT ih hne2 hcq rx ry lx ly sz1 sz2 sz3 sz4 zxl zxr zyl zyr
        go_enter Tryd.func27, Tryd.ntmps27
        go_wp2_with fail
        refine (HSP.out _).mono ?_; rintro e _ ⟨rfl, rfl⟩
        go_wp2_with fail
        go_region_held3 (fun w' => Below w.heap.size w w') (first | assumption | exact Below.drew (by assumption))
          (first
            | (go_at_call 24; (with_reducible refine (HXL.out _ (by assumption)).mono ?_); rintro e w1 ⟨rfl, C1⟩; have B1 := chain (by assumption) C1; clear C1)
            | (go_at_call 24; (with_reducible refine (HXR.out _ (by assumption)).mono ?_); rintro e w2 ⟨rfl, C2⟩; have B2 := chain (by assumption) C2; clear C2))
        all_goals
          go_wp2_with fail
          go_region_held3 (fun w' => Below w.heap.size w w') (first | assumption | exact Below.drew (by assumption))
            (first
              | (go_at_call 24; (with_reducible refine (HYL.out _ (by assumption)).mono ?_); rintro e w3 ⟨rfl, C3⟩; have B3 := chain (by assumption) C3; clear C3)
              | (go_at_call 24; (with_reducible refine (HYR.out _ (by assumption)).mono ?_); rintro e w4 ⟨rfl, C4⟩; have B4 := chain (by assumption) C4; clear C4))
        all_goals
          go_wp2_with fail
          refine (HX.out _ (by first | assumption | exact Below.drew (by assumption))).mono ?_; rintro e w5 ⟨rfl, C5⟩
          have B5 := chain (by first | assumption | exact Below.drew (by assumption)) C5
          clear C5
          go_wp2_with fail
          refine (HY.out _ B5).mono ?_; rintro e w6 ⟨rfl, C6⟩
          have B6 := chain B5 C6
          clear C6
          go_wp2
          go_ret
          exact ⟨by simp, B6⟩
      · by_cases htk : xs.take (sp n) = ys.take (sp n)
        · have HSM : Hid (∀ W, Below w.heap.size w W → Calls Tryd.prog 30 #[.slice A (sp n) c, .slice B (sp n) d] W (fun e w' => e = .returned (.bool true) ∧ Below W.heap.size W w')) := Lib.hid fun W hB => same_calls A B (sp n) (sp n) c d _ _ W ((ha.take (sp n) (by omega)).below hB) ((hb.take (sp n) (by omega)).below hB) (by omega) (by omega) true (by simp [htk])
          have HCL : Hid (∀ W, Below w.heap.size w W → Calls Tryd.prog 27 #[.int .i64 k, .slice (cutA A (sp n) c) (n - sp n) (c - sp n), .slice (cutA B (sp n) d) (n - sp n) (d - sp n)] W (AllTrue W)) := Lib.hid fun W hB => ih (n - sp n) _ _ _ _ (xs.drop (sp n)) (ys.drop (sp n)) W (by omega) (by omega) (by omega) ((ha.cut_all (sp n) c (by omega) (by omega)).below hB) ((hb.cut_all (sp n) d (by omega) (by omega)).below hB) (by omega) (by omega) (All.drop ax _) (All.drop ay _) (split_ne hne htk) hR (hT.below hB)
          rw [← hl] at HYL zyl
          rw [← hR] at HYR zyr
          generalize root k (xs.take (sp n)) = XL at *
          generalize root k (xs.drop (sp n)) = XR at *
          have hm1 : ¬ 9223372036854775807 < XL.size + XR.size := by omega
          generalize sp n = p at *
          clear ha hb ax ay hne hr hT ih rx ry lx ly hl hR htk zxl zxr zyl zyr
          go_enter Tryd.func27, Tryd.ntmps27
          go_wp2_with fail
          refine (HSP.out _).mono ?_; rintro e _ ⟨rfl, rfl⟩
          go_wp2_with fail
          go_region_held3 (fun w' => Below w.heap.size w w') (first | assumption | exact Below.drew (by assumption))
            (first
              | (go_at_call 24; (with_reducible refine (HXL.out _ (by assumption)).mono ?_); rintro e w1 ⟨rfl, C1⟩; have B1 := chain (by assumption) C1; clear C1)
              | (go_at_call 24; (with_reducible refine (HXR.out _ (by assumption)).mono ?_); rintro e w2 ⟨rfl, C2⟩; have B2 := chain (by assumption) C2; clear C2))
          all_goals
            go_wp2_with fail
            go_region_held3 (fun w' => Below w.heap.size w w') (first | assumption | exact Below.drew (by assumption))
              (first
                | (go_at_call 24; (with_reducible refine (HYL.out _ (by assumption)).mono ?_); rintro e w3 ⟨rfl, C3⟩; have B3 := chain (by assumption) C3; clear C3)
                | (go_at_call 24; (with_reducible refine (HYR.out _ (by assumption)).mono ?_); rintro e w4 ⟨rfl, C4⟩; have B4 := chain (by assumption) C4; clear C4))
          all_goals
            go_wp2_with fail
            go_region_held3 (fun w' => Below w.heap.size w w') (first | assumption | exact Below.drew (by assumption))
              (first
                | (go_at_call 30; (with_reducible refine (HSM.out _ (by assumption)).mono ?_); rintro e w5 ⟨rfl, C5⟩; have B5 := chain (by assumption) C5; clear C5))
          all_goals
            go_wp2_with fail
            go_region_held3 (fun w' => Below w.heap.size w w') (first | assumption | exact Below.drew (by assumption))
              (first
                | (go_at_call 27; (with_reducible refine (HCL.out _ (by assumption)).mono ?_); rintro e w6 ⟨rfl, C6⟩; have B6 := chain (by assumption) C6; clear C6))
          all_goals
            go_wp2
            go_ret
            exact ⟨by simp, by assumption⟩
        · have HSM : Hid (∀ W, Below w.heap.size w W → Calls Tryd.prog 30 #[.slice A (sp n) c, .slice B (sp n) d] W (fun e w' => e = .returned (.bool false) ∧ Below W.heap.size W w')) := Lib.hid fun W hB => same_calls A B (sp n) (sp n) c d _ _ W ((ha.take (sp n) (by omega)).below hB) ((hb.take (sp n) (by omega)).below hB) (by omega) (by omega) false (by simp [htk])
          have HCL : Hid (∀ W, Below w.heap.size w W → Calls Tryd.prog 27 #[.int .i64 k, .slice A (sp n) c, .slice B (sp n) d] W (AllTrue W)) := Lib.hid fun W hB => ih (sp n) _ _ _ _ (xs.take (sp n)) (ys.take (sp n)) W (by omega) (by omega) (by omega) ((ha.take (sp n) (by omega)).below hB) ((hb.take (sp n) (by omega)).below hB) (by omega) (by omega) (All.take ax _) (All.take ay _) htk hl (hT.below hB)
          rw [← hl] at HYL zyl
          rw [← hR] at HYR zyr
          generalize root k (xs.take (sp n)) = XL at *
          generalize root k (xs.drop (sp n)) = XR at *
          have hm1 : ¬ 9223372036854775807 < XL.size + XR.size := by omega
          generalize sp n = p at *
          clear ha hb ax ay hne hr hT ih rx ry lx ly hl hR htk zxl zxr zyl zyr
          go_enter Tryd.func27, Tryd.ntmps27
          go_wp2_with fail
          refine (HSP.out _).mono ?_; rintro e _ ⟨rfl, rfl⟩
          go_wp2_with fail
          go_region_held3 (fun w' => Below w.heap.size w w') (first | assumption | exact Below.drew (by assumption))
            (first
              | (go_at_call 24; (with_reducible refine (HXL.out _ (by assumption)).mono ?_); rintro e w1 ⟨rfl, C1⟩; have B1 := chain (by assumption) C1; clear C1)
              | (go_at_call 24; (with_reducible refine (HXR.out _ (by assumption)).mono ?_); rintro e w2 ⟨rfl, C2⟩; have B2 := chain (by assumption) C2; clear C2))
          all_goals
            go_wp2_with fail
            go_region_held3 (fun w' => Below w.heap.size w w') (first | assumption | exact Below.drew (by assumption))
              (first
                | (go_at_call 24; (with_reducible refine (HYL.out _ (by assumption)).mono ?_); rintro e w3 ⟨rfl, C3⟩; have B3 := chain (by assumption) C3; clear C3)
                | (go_at_call 24; (with_reducible refine (HYR.out _ (by assumption)).mono ?_); rintro e w4 ⟨rfl, C4⟩; have B4 := chain (by assumption) C4; clear C4))
          all_goals
            go_wp2_with fail
            go_region_held3 (fun w' => Below w.heap.size w w') (first | assumption | exact Below.drew (by assumption))
              (first
                | (go_at_call 30; (with_reducible refine (HSM.out _ (by assumption)).mono ?_); rintro e w5 ⟨rfl, C5⟩; have B5 := chain (by assumption) C5; clear C5))
          all_goals
            go_wp2_with fail
            go_region_held3 (fun w' => Below w.heap.size w w') (first | assumption | exact Below.drew (by assumption))
              (first
                | (go_at_call 27; (with_reducible refine (HCL.out _ (by assumption)).mono ?_); rintro e w6 ⟨rfl, C6⟩; have B6 := chain (by assumption) C6; clear C6))
          all_goals
            go_wp2
            go_ret
            exact ⟨by simp, by assumption⟩
end Go.Proofs.YtcenfedmbicofaaDoor.Mth
