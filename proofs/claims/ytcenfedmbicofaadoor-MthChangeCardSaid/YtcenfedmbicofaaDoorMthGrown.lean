/- The statements' grown; MthGrows: their walks. -/
import Derived.Test.YtcenfedmbicofaaDoorMthClimb
set_option linter.unusedVariables false
set_option linter.unusedSimpArgs false
namespace Go.Proofs.YtcenfedmbicofaaDoor.Mth
open Go.RowKit Go.Proofs.YtcenfedmbicofaaDoor.Base Go.Proofs.YtcenfedmbicofaaDoor.ShaPlain Go.Proofs.YtcenfedmbicofaaDoor.ShaDig Go.Proofs.YtcenfedmbicofaaDoor.TreeHash Go.Proofs.YtcenfedmbicofaaDoor.Strs Go.Proofs.YtcenfedmbicofaaDoor.Mem

theorem sp_same {m n : Nat} (h2 : 2 ≤ n) (h : sp n < m) (hm : m ≤ n) : sp m = sp n := by
  obtain ⟨s1, s2, s3⟩ := sp_spec h2
  exact (sp_of (by show sp n < m; exact h) (by show m ≤ 2 * sp n; omega)).symm
def Grown (s t : ByteArray) (w : World) (e : Ending) (w' : World) : Prop := e = .returned (.tuple #[.string s, .string t, .bool true]) ∧ Below w.heap.size w w'
set_option maxHeartbeats 4000000 in
theorem grown_calls (k : Int) (q : Nat) : ∀ (m n : Nat) (ss : List ByteArray) (b : Bool) (old : ByteArray) (A : Option Addr) (l c : Nat) (w : World), n ≤ q → ss.length = n → 1 ≤ m → m ≤ n → n ≤ 1000000000000000 → (b = true → old = root k (ss.take m)) → Strs w A l (prf k m ss b) → l ≤ c → Tab w →
    Calls Tryd.prog 38 #[.int .i64 k, .int .i64 (m : Int), .int .i64 (n : Int), .bool b, .string old, .slice A l c] w (Grown (root k (ss.take m)) (root k ss) w) := by
  induction q with
  | zero => intro m n ss b old A l c w hq hl h1 hm; omega
  | succ q ih =>
    intro m n ss b old A l c w hq hl h1 hm hn ho hs hc hT
    by_cases h0 : m = n
    · subst h0
      have heq : ((m : Int) == (m : Int)) = true := by simp
      have htk : ss.take m = ss := List.take_of_length_le (by omega)
      rw [htk] at ho ⊢
      cases b with
      | true =>
        rw [prf_all k m ss hl.symm] at hs
        obtain rfl : l = 0 := hs.len.symm
        rw [← ho rfl]
        clear hs hT ih hl ho htk
        go_enter Tryd.func38, Tryd.ntmps38
        go_wp2
        go_ret3
        exact ⟨rfl, Below.refl _ _⟩
      | false =>
        rw [prf_one k m ss hl.symm] at hs
        obtain rfl : l = 1 := hs.len.symm
        obtain ⟨ad, hA, hab, hcell⟩ := hs.at_ 0 (by omega)
        rw [show [root k ss].getD 0 ⟨#[]⟩ = root k ss from rfl, add_zero] at hcell
        subst hA
        generalize root k ss = t at *
        clear hs hT ih hl ho htk
        go_enter Tryd.func38, Tryd.ntmps38
        go_wp2
        go_region
        all_goals
          go_wp2
          go_ret3
          exact ⟨rfl, (Below.refl _ _).drew⟩
    · have h2 : 2 ≤ n := by omega
      obtain ⟨s1, s2, s3⟩ := sp_spec h2
      have hne1 : ((m : Int) == (n : Int)) = false := by rw [beq_eq_false_iff_ne]; omega
      have HSP := Lib.hid (fun W => lsplit_calls n h2 (by omega) W)
      have hrt := root_node k ss (by omega)
      rw [hl] at hrt
      have z1 := Lib.hid (root_size k (ss.take (sp n)))
      have z2 := Lib.hid (root_size k (ss.drop (sp n)))
      have z3 := (wid_le k).2
      have HN : Hid (∀ W, Below w.heap.size w W → Calls Tryd.prog 19 #[.int .i64 k, .string (root k (ss.take (sp n))), .string (root k (ss.drop (sp n)))] W (Gives (root k ss) W)) :=
        Lib.hid fun W hb => by rw [hrt]; exact node_calls k _ _ (by rw [z1.out, z2.out]; omega) W (hT.below hb)
      by_cases hlt : m ≤ sp n
      · have hpt := prf_left k m ss b (by omega) (by omega) (by rw [hl]; exact hlt)
        rw [hl] at hpt
        rw [hpt] at hs
        have hpl := prf_len k (sp n) m (ss.take (sp n)) b (by rw [List.length_take]; omega) (by rw [List.length_take]; omega)
        rw [List.length_take, hl, Nat.min_eq_left (by omega)] at hpl
        have hm' := hs.len
        rw [List.length_append, List.length_singleton] at hm'
        have HC : Hid (∀ W B, Below w.heap.size w W → Strs W B ((prf k m (ss.take (sp n)) b).length) (prf k m (ss.take (sp n)) b) → Calls Tryd.prog 38 #[.int .i64 k, .int .i64 (m : Int), .int .i64 (sp n : Int), .bool b, .string old, .slice B ((prf k m (ss.take (sp n)) b).length) c] W (Grown (root k (ss.take m)) (root k (ss.take (sp n))) W)) :=
          Lib.hid fun W B hb hs' => by
            have e : (ss.take (sp n)).take m = ss.take m := by rw [List.take_take, Nat.min_eq_left hlt]
            have := ih m (sp n) (ss.take (sp n)) b old B _ c W (by omega) (by rw [List.length_take]; omega) h1 hlt (by omega) (by rw [e]; exact ho) hs' (by omega) (hT.below hb)
            rw [e] at this
            exact this
        generalize prf k m (ss.take (sp n)) b = ps at *
        generalize root k (ss.take (sp n)) = L at *
        generalize root k (ss.drop (sp n)) = R at *
        obtain rfl : l = ps.length + 1 := hm'.symm
        have hpb : ps.length ≤ 1000000000000000 := by omega
        obtain ⟨ad, hA, hab, hcell⟩ := hs.at_ ps.length (by omega)
        rw [getD_snoc ps R rfl] at hcell
        have hps := hs.take ps.length (by omega)
        rw [List.take_left' rfl] at hps
        have hcut := fun W => run_cut_h W A (ps.length + 1) c ps.length (by omega)
        have HC1 := Lib.hid (HC.out w A (Below.refl _ _) hps)
        subst hA
        generalize root k ss = t at *
        generalize root k (ss.take m) = s at *
        generalize sp n = p at *
        clear hs hT ih hl hpt hps hrt HC hpl ho hm'
        have hlt' : (m : Int) ≤ (p : Int) := by omega
        go_enter Tryd.func38, Tryd.ntmps38
        go_wp2_with fail
        refine (HSP.out _).mono ?_; rintro e _ ⟨rfl, rfl⟩
        go_wp2_with fail
        refine HC1.out.mono ?_; rintro e w1 ⟨rfl, B1⟩
        have q1 := B1.size
        go_wp2_with fail
        refine (HN.out _ B1).mono ?_; rintro e w2 ⟨rfl, C2⟩
        have B2 := B1.trans (C2.mono q1)
        clear C2 B1
        go_wp2
        go_ret3
        exact ⟨rfl, B2⟩
      · have hpt := prf_right k m ss b (by omega) (by omega) (by rw [hl]; exact hlt)
        rw [hl] at hpt
        rw [hpt] at hs
        have hpl := prf_len k (n - sp n) (m - sp n) (ss.drop (sp n)) false (by rw [List.length_drop]; omega) (by rw [List.length_drop]; omega)
        rw [List.length_drop, hl] at hpl
        have hm' := hs.len
        rw [List.length_append, List.length_singleton] at hm'
        have e : (ss.take m).drop (sp n) = (ss.drop (sp n)).take (m - sp n) := by rw [List.drop_take]
        have e' : (ss.take m).take (sp n) = ss.take (sp n) := by rw [List.take_take, Nat.min_eq_left (by omega)]
        have hrm := root_node k (ss.take m) (by rw [List.length_take]; omega)
        rw [List.length_take, hl, Nat.min_eq_left hm, sp_same h2 (by omega) hm, e, e'] at hrm
        have z4 := Lib.hid (root_size k ((ss.drop (sp n)).take (m - sp n)))
        have HN1 : Hid (∀ W, Below w.heap.size w W → Calls Tryd.prog 19 #[.int .i64 k, .string (root k (ss.take (sp n))), .string (root k ((ss.drop (sp n)).take (m - sp n)))] W (Gives (root k (ss.take m)) W)) :=
          Lib.hid fun W hb => by rw [hrm]; exact node_calls k _ _ (by rw [z1.out, z4.out]; omega) W (hT.below hb)
        have HC : Hid (∀ W B, Below w.heap.size w W → Strs W B ((prf k (m - sp n) (ss.drop (sp n)) false).length) (prf k (m - sp n) (ss.drop (sp n)) false) → Calls Tryd.prog 38 #[.int .i64 k, .int .i64 ((m : Int) - (sp n : Int)), .int .i64 ((n : Int) - (sp n : Int)), .bool false, .string old, .slice B ((prf k (m - sp n) (ss.drop (sp n)) false).length) c] W (Grown (root k ((ss.drop (sp n)).take (m - sp n))) (root k (ss.drop (sp n))) W)) :=
          Lib.hid fun W B hb hs' => by
            rw [show (m : Int) - (sp n : Int) = ((m - sp n : Nat) : Int) by omega, show (n : Int) - (sp n : Int) = ((n - sp n : Nat) : Int) by omega]
            exact ih (m - sp n) (n - sp n) (ss.drop (sp n)) false old B _ c W (by omega) (by rw [List.length_drop]; omega) (by omega) (by omega) (by omega) (fun h => by cases h) hs' (by omega) (hT.below hb)
        generalize prf k (m - sp n) (ss.drop (sp n)) false = ps at *
        generalize root k (ss.take (sp n)) = L at *
        generalize root k (ss.drop (sp n)) = R at *
        generalize root k ((ss.drop (sp n)).take (m - sp n)) = R1 at *
        obtain rfl : l = ps.length + 1 := hm'.symm
        have hpb : ps.length ≤ 1000000000000000 := by omega
        obtain ⟨ad, hA, hab, hcell⟩ := hs.at_ ps.length (by omega)
        rw [getD_snoc ps L rfl] at hcell
        have hps := hs.take ps.length (by omega)
        rw [List.take_left' rfl] at hps
        have hcut := fun W => run_cut_h W A (ps.length + 1) c ps.length (by omega)
        have HC1 := Lib.hid (HC.out w A (Below.refl _ _) hps)
        subst hA
        generalize root k ss = t at *
        generalize root k (ss.take m) = s at *
        generalize sp n = p at *
        clear hs hT ih hl hpt hps hrt HC hpl ho hm' e e' hrm
        have hlt' : ¬ (m : Int) ≤ (p : Int) := by omega
        go_enter Tryd.func38, Tryd.ntmps38
        go_wp2_with fail
        refine (HSP.out _).mono ?_; rintro e _ ⟨rfl, rfl⟩
        go_wp2_with fail
        refine HC1.out.mono ?_; rintro e w1 ⟨rfl, B1⟩
        have q1 := B1.size
        go_wp2_with fail
        refine (HN1.out _ B1).mono ?_; rintro e w2 ⟨rfl, C2⟩
        have B2 := B1.trans (C2.mono q1)
        have q2 := B2.size
        clear C2 B1
        go_wp2_with fail
        refine (HN.out _ B2).mono ?_; rintro e w3 ⟨rfl, C3⟩
        have B3 := B2.trans (C3.mono q2)
        clear C3 B2
        go_wp2
        go_ret3
        exact ⟨rfl, B3⟩
set_option maxHeartbeats 2000000 in
theorem mthGrows_in (k i : Int) (A : Option Addr) (n c : Nat) (ss : List ByteArray) (w : World) (hC : Came w A n c ss) (hT : Tab w) :
    Calls Tryd.prog 12 #[.int .i64 k, .int .i64 i, .slice A n c] w (AllTrue w) := by
  obtain ⟨hS, hnc, hcb, hsz⟩ := hC
  have HL := Lib.hid hS.len
  have HM := Lib.hid (mProof_calls k i A n c ss w hS hnc (by omega) hsz hT)
  by_cases hb : i < 0 ∨ (n : Int) < i
  · have e1 : prfL k i ss = [] := by rw [prfL, HL.out, if_pos (by omega)]
    have e2 : prfR i n = 80 := by rw [prfR, if_pos hb]
    rw [e1, e2] at HM
    clear e1 e2 hS hT hsz
    rcases hb with h | h
    all_goals
      go_enter Tryd.func12, Tryd.ntmps12
      go_wp2_with fail
      refine HM.out.mono ?_; rintro e w1 ⟨v, rfl, O1, B1⟩
      obtain ⟨A1, c1, rfl, _, _⟩ := O1.shape
      clear O1
      go_wp2
      go_ret
      exact ⟨by simp, B1⟩
  · obtain ⟨j, rfl⟩ := Int.eq_ofNat_of_zero_le (show 0 ≤ i by omega)
    have hj : j ≤ n := by omega
    have hj' : ¬ (n : Int) < (j : Int) := by omega
    have e2 : prfR (j : Int) n = 0 := by rw [prfR, if_neg hb]
    rw [e2] at HM
    by_cases hz : j = 0 ∨ j = n
    · have e1 : prfL k (j : Int) ss = [] := by
        rw [prfL]
        split
        · rfl
        · exact prf_all k _ ss (by rw [HL.out, Int.toNat_natCast]; omega)
      rw [e1] at HM
      clear e1 e2 hS hT hsz hb
      have hz' : j = 0 ∨ (j ≠ 0 ∧ j = n) := by omega
      clear hz
      rcases hz' with h | ⟨hne, h⟩
      case' inr => have hn0 : ((j : Int) == 0) = false := by rw [beq_eq_false_iff_ne]; omega
      all_goals
        subst h
        go_enter Tryd.func12, Tryd.ntmps12
        go_wp2_with fail
        refine HM.out.mono ?_; rintro e w1 ⟨v, rfl, O1, B1⟩
        obtain ⟨A1, c1, rfl, _, _⟩ := O1.shape
        clear O1
        go_wp2
        go_ret
        exact ⟨by simp, B1⟩
    · have e1 : prfL k (j : Int) ss = prf k j ss true := by rw [prfL, HL.out, if_neg (by omega), Int.toNat_natCast]
      rw [e1] at HM
      have hn0 : ((j : Int) == 0) = false := by rw [beq_eq_false_iff_ne]; omega
      have hnn : ((j : Int) == (n : Int)) = false := by rw [beq_eq_false_iff_ne]; omega
      have hcut := fun W => run_cut_h W A n c j (by omega)
      have HOLD : Hid (∀ W, Below w.heap.size w W → Calls Tryd.prog 24 #[.int .i64 k, .slice A j c] W (Gives (root k (ss.take j)) W)) := Lib.hid fun W hb => mroot_calls k j A j c (ss.take j) W (Nat.le_refl _) ((hS.take j hj).below hb) (by omega) (by omega) (All.take hsz j) (hT.below hb)
      have HGR : Hid (∀ W B d, Below w.heap.size w W → Strs W B (prf k j ss true).length (prf k j ss true) → (prf k j ss true).length ≤ d → Calls Tryd.prog 38 #[.int .i64 k, .int .i64 (j : Int), .int .i64 (n : Int), .bool true, .string (root k (ss.take j)), .slice B (prf k j ss true).length d] W (Grown (root k (ss.take j)) (root k ss) W)) :=
        Lib.hid fun W B d hb hs hd => grown_calls k n j n ss true _ B _ d W (Nat.le_refl _) HL.out (by omega) hj (by omega) (fun _ => rfl) hs hd (hT.below hb)
      have HRT : Hid (∀ W, Below w.heap.size w W → Calls Tryd.prog 24 #[.int .i64 k, .slice A n c] W (Gives (root k ss) W)) := Lib.hid fun W hb => mroot_calls k n A n c ss W (Nat.le_refl _) (hS.below hb) hnc (by omega) hsz (hT.below hb)
      generalize prf k j ss true = ps at *
      generalize root k ss = t at *
      generalize root k (ss.take j) = s at *
      clear e1 e2 hS hT hsz hb
      go_enter Tryd.func12, Tryd.ntmps12
      go_wp2_with fail
      refine HM.out.mono ?_; rintro e w1 ⟨v, rfl, O1, B1⟩
      obtain ⟨A1, c1, rfl, hc1, P1⟩ := O1.shape
      have q1 := B1.size
      clear O1
      go_wp2_with fail
      refine (HOLD.out _ B1).mono ?_; rintro e w2 ⟨rfl, C2⟩
      have P2 := P1.below C2
      have B2 := B1.trans (C2.mono q1)
      have q2 := B2.size
      clear C2 B1 P1
      go_wp2_with fail
      refine (HGR.out _ A1 c1 B2 P2 hc1).mono ?_; rintro e w3 ⟨rfl, C3⟩
      have B3 := B2.trans (C3.mono q2)
      have q3 := B3.size
      clear C3 B2 P2
      go_wp2_with fail
      refine (HRT.out _ B3).mono ?_; rintro e w4 ⟨rfl, C4⟩
      have B4 := B3.trans (C4.mono q3)
      clear C4 B3
      go_wp2
      go_ret
      exact ⟨by simp, B4⟩
theorem mthGrows_walk (k i : Int) (A : Option Addr) (n c : Nat) (ss : List ByteArray) (w : World) (_ : (Lit.int .i64 k).wf = true) (_ : (Lit.int .i64 i).wf = true) (hC : Came w A n c ss) (h3 : ∀ i : Nat, i < 8 → w.cell? ⟨2, i, none⟩ = some (.int .u32 (Ints I0.list i))) (h4 : ∀ i : Nat, i < 64 → w.cell? ⟨3, i, none⟩ = some (.int .u32 (Ints K0 i))) :
    Calls Tryd.prog 12 #[.int .i64 k, .int .i64 i, .slice A n c] w fun e w' => e = .returned (.bool true) ∧ Below w.heap.size w w' :=
  mthGrows_in k i A n c ss w hC (tab_of h3 h4)
end Go.Proofs.YtcenfedmbicofaaDoor.Mth
