/- The statements' split, climbed, grown; MthLeads, MthGrows: their walks. -/
import Derived.Test.YtcenfedmbicofaaDoorMthTops
set_option linter.unusedVariables false
set_option linter.unusedSimpArgs false
namespace Go.Proofs.YtcenfedmbicofaaDoor.Mth
open Go.RowKit Go.Proofs.YtcenfedmbicofaaDoor.Base Go.Proofs.YtcenfedmbicofaaDoor.ShaPlain Go.Proofs.YtcenfedmbicofaaDoor.ShaDig Go.Proofs.YtcenfedmbicofaaDoor.TreeHash Go.Proofs.YtcenfedmbicofaaDoor.Strs Go.Proofs.YtcenfedmbicofaaDoor.Mem

set_option maxHeartbeats 1000000 in
theorem lsplit_calls (n : Nat) (h2 : 2 ≤ n) (hn : n ≤ 1000000000000000) (w : World) : Calls Tryd.prog 34 #[.int .i64 (n : Int)] w (fun e w' => e = .returned (.int .i64 (sp n : Int)) ∧ w = w') := by
  go_enter Tryd.func34, Tryd.ntmps34
  go_wp2_with fail
  go_loop [3] (fun s3 => ∃ p : Nat, 1 ≤ p ∧ p < n ∧ s3 = .int .i64 p ∧ Hid (∃ j, p = 2 ^ j)) (fun s3 => n - (intOf s3).toNat)
  case atStart => exact ⟨1, by omega, by omega, rfl, Lib.hid ⟨0, rfl⟩⟩
  case round =>
    obtain ⟨p, hp1, hp, rfl, hj⟩ := hrel
    by_cases hlt : 2 * p < n
    · have hlt' : 2 * (p : Int) < (n : Int) := by omega
      have HJ : Hid (∃ j, 2 * p = 2 ^ j) := Lib.hid (by obtain ⟨j, e⟩ := hj.out; exact ⟨j + 1, by rw [Nat.pow_succ, e]; omega⟩)
      go_wp2
      go_round
      case rel => exact ⟨2 * p, by omega, by omega, by go_num, HJ⟩
      case measure => simp [intOf]; omega
    · have hlt' : ¬ 2 * (p : Int) < (n : Int) := by omega
      have HE : Hid (p = sp n) := Lib.hid (by
        obtain ⟨j, e⟩ := hj.out
        rw [e]
        exact sp_of (by omega) (by omega))
      go_wp2
      go_ret
      exact ⟨by rw [← HE.out]; rfl, rfl⟩
/-! ### climbed -/
theorem getD_take' (l : List ByteArray) (p i : Nat) (h : i < p) : (l.take p).getD i ⟨#[]⟩ = l.getD i ⟨#[]⟩ := by
  rw [List.getD_eq_getElem?_getD, List.getD_eq_getElem?_getD, List.getElem?_take_of_lt h]
theorem getD_drop' (l : List ByteArray) (p i : Nat) (h : p ≤ i) : (l.drop p).getD (i - p) ⟨#[]⟩ = l.getD i ⟨#[]⟩ := by
  rw [List.getD_eq_getElem?_getD, List.getD_eq_getElem?_getD, List.getElem?_drop, show p + (i - p) = i by omega]
theorem getD_snoc (l : List ByteArray) (x : ByteArray) {n : Nat} (h : l.length = n) : (l ++ [x]).getD n ⟨#[]⟩ = x := by
  rw [List.getD_eq_getElem?_getD, List.getElem?_append_right (by omega), h]
  simp
def Climbed (t : ByteArray) (w : World) (e : Ending) (w' : World) : Prop := e = .returned (.tuple #[.string t, .bool true]) ∧ Below w.heap.size w w'
set_option maxHeartbeats 4000000 in
theorem climbed_calls (k : Int) (q : Nat) : ∀ (i n : Nat) (ss : List ByteArray) (h : ByteArray) (A : Option Addr) (m c : Nat) (w : World), n ≤ q → ss.length = n → i < n → n ≤ 1000000000000000 → h = leafH k (ss.getD i ⟨#[]⟩) → Strs w A m (path k i ss) → m ≤ c → Tab w →
    Calls Tryd.prog 35 #[.int .i64 k, .int .i64 (i : Int), .int .i64 (n : Int), .string h, .slice A m c] w (Climbed (root k ss) w) := by
  induction q with
  | zero => intro i n ss h A m c w hq hl hi; omega
  | succ q ih =>
    intro i n ss h A m c w hq hl hi hn hh hs hc hT
    by_cases h1 : n = 1
    · subst h1
      rw [path_short k i ss (by omega)] at hs
      obtain rfl : m = 0 := hs.len.symm
      obtain rfl : i = 0 := by omega
      have hr : root k ss = h := by rw [one_of hl, root_one, hh]
      rw [hr]
      have HE := Lib.hid hh
      clear hs hT ih hl hh hr
      go_enter Tryd.func35, Tryd.ntmps35
      go_wp2
      go_ret2
      exact ⟨rfl, Below.refl _ _⟩
    · have h2 : 2 ≤ n := by omega
      obtain ⟨s1, s2, s3⟩ := sp_spec h2
      have hne1 : ((n : Int) == 1) = false := by rw [beq_eq_false_iff_ne]; omega
      have HSP := Lib.hid (fun W => lsplit_calls n h2 (by omega) W)
      have hrt := root_node k ss (by omega)
      rw [hl] at hrt
      have z1 := Lib.hid (root_size k (ss.take (sp n)))
      have z2 := Lib.hid (root_size k (ss.drop (sp n)))
      have z3 := (wid_le k).2
      have HN : Hid (∀ W, Below w.heap.size w W → Calls Tryd.prog 19 #[.int .i64 k, .string (root k (ss.take (sp n))), .string (root k (ss.drop (sp n)))] W (Gives (root k ss) W)) :=
        Lib.hid fun W hb => by rw [hrt]; exact node_calls k _ _ (by rw [z1.out, z2.out]; omega) W (hT.below hb)
      by_cases hlt : i < sp n
      · have hpt := path_left k i ss (by omega) (by rw [hl]; exact hlt)
        rw [hl] at hpt
        rw [hpt] at hs
        have hpl := path_len k (sp n) (i) (ss.take (sp n)) (by rw [List.length_take]; omega)
        rw [List.length_take, hl, Nat.min_eq_left (by omega)] at hpl
        have hm := hs.len
        rw [List.length_append, List.length_singleton] at hm
        have HC : Hid (∀ W B, Below w.heap.size w W → Strs W B ((path k i (ss.take (sp n))).length) (path k i (ss.take (sp n))) → Calls Tryd.prog 35 #[.int .i64 k, .int .i64 ((i : Int)), .int .i64 ((sp n : Int)), .string h, .slice B ((path k i (ss.take (sp n))).length) c] W (Climbed (root k (ss.take (sp n))) W)) :=
          Lib.hid fun W B hb hs' => ih i (sp n) (ss.take (sp n)) h B _ c W (by omega) (by rw [List.length_take]; omega) hlt (by omega) (by rw [hh, getD_take' ss _ _ hlt]) hs' (by omega) (hT.below hb)
        generalize path k i (ss.take (sp n)) = ps at *
        generalize root k (ss.take (sp n)) = L at *
        generalize root k (ss.drop (sp n)) = R at *
        obtain rfl : m = ps.length + 1 := hm.symm
        have hpb : ps.length ≤ 1000000000000000 := by omega
        obtain ⟨ad, hA, hab, hcell⟩ := hs.at_ ps.length (by omega)
        rw [getD_snoc ps R rfl] at hcell
        have hps := hs.take ps.length (by omega)
        rw [List.take_left' rfl] at hps
        have hcut := fun W => run_cut_h W A (ps.length + 1) c ps.length (by omega)
        have HC1 := Lib.hid (HC.out w A (Below.refl _ _) hps)
        subst hA
        generalize root k ss = t at *
        generalize sp n = p at *
        have HHH := Lib.hid hh
        clear hs hT ih hl hpt hps hh hrt HC hpl hm
        have hlt' : (i : Int) < (p : Int) := by omega
        go_enter Tryd.func35, Tryd.ntmps35
        go_wp2_with fail
        refine (HSP.out _).mono ?_; rintro e _ ⟨rfl, rfl⟩
        go_wp2_with fail
        refine HC1.out.mono ?_; rintro e w1 ⟨rfl, B1⟩
        have q1 := B1.size
        go_wp2_with fail
        refine (HN.out _ B1).mono ?_; rintro e w2 ⟨rfl, C2⟩
        have B2 := B1.trans (C2.mono q1)
        clear C2 B1
        go_wp2
        go_ret2
        exact ⟨rfl, B2⟩
      · have hpt := path_right k i ss (by omega) (by rw [hl]; exact hlt)
        rw [hl] at hpt
        rw [hpt] at hs
        have hpl := path_len k (n - sp n) (i - sp n) (ss.drop (sp n)) (by rw [List.length_drop]; omega)
        rw [List.length_drop, hl] at hpl
        have hm := hs.len
        rw [List.length_append, List.length_singleton] at hm
        have HC : Hid (∀ W B, Below w.heap.size w W → Strs W B ((path k (i - sp n) (ss.drop (sp n))).length) (path k (i - sp n) (ss.drop (sp n))) → Calls Tryd.prog 35 #[.int .i64 k, .int .i64 ((i : Int) - (sp n : Int)), .int .i64 ((n : Int) - (sp n : Int)), .string h, .slice B ((path k (i - sp n) (ss.drop (sp n))).length) c] W (Climbed (root k (ss.drop (sp n))) W)) :=
          Lib.hid fun W B hb hs' => by
            rw [show (i : Int) - (sp n : Int) = ((i - sp n : Nat) : Int) by omega, show (n : Int) - (sp n : Int) = ((n - sp n : Nat) : Int) by omega]
            exact ih (i - sp n) (n - sp n) (ss.drop (sp n)) h B _ c W (by omega) (by rw [List.length_drop]; omega) (by omega) (by omega) (by rw [hh, getD_drop' ss _ _ (by omega)]) hs' (by omega) (hT.below hb)
        generalize path k (i - sp n) (ss.drop (sp n)) = ps at *
        generalize root k (ss.drop (sp n)) = L at *
        generalize root k (ss.take (sp n)) = R at *
        obtain rfl : m = ps.length + 1 := hm.symm
        have hpb : ps.length ≤ 1000000000000000 := by omega
        obtain ⟨ad, hA, hab, hcell⟩ := hs.at_ ps.length (by omega)
        rw [getD_snoc ps R rfl] at hcell
        have hps := hs.take ps.length (by omega)
        rw [List.take_left' rfl] at hps
        have hcut := fun W => run_cut_h W A (ps.length + 1) c ps.length (by omega)
        have HC1 := Lib.hid (HC.out w A (Below.refl _ _) hps)
        subst hA
        generalize root k ss = t at *
        generalize sp n = p at *
        have HHH := Lib.hid hh
        clear hs hT ih hl hpt hps hh hrt HC hpl hm
        have hlt' : ¬ (i : Int) < (p : Int) := by omega
        go_enter Tryd.func35, Tryd.ntmps35
        go_wp2_with fail
        refine (HSP.out _).mono ?_; rintro e _ ⟨rfl, rfl⟩
        go_wp2_with fail
        refine HC1.out.mono ?_; rintro e w1 ⟨rfl, B1⟩
        have q1 := B1.size
        go_wp2_with fail
        refine (HN.out _ B1).mono ?_; rintro e w2 ⟨rfl, C2⟩
        have B2 := B1.trans (C2.mono q1)
        clear C2 B1
        go_wp2
        go_ret2
        exact ⟨rfl, B2⟩
set_option maxHeartbeats 2000000 in
theorem mthLeads_in (k i : Int) (A : Option Addr) (n c : Nat) (ss : List ByteArray) (w : World) (hC : Came w A n c ss) (hT : Tab w) :
    Calls Tryd.prog 10 #[.int .i64 k, .int .i64 i, .slice A n c] w (AllTrue w) := by
  obtain ⟨hS, hnc, hcb, hsz⟩ := hC
  have HL := Lib.hid hS.len
  have HM := Lib.hid (mPath_calls k i A n c ss w hS hnc (by omega) hsz hT)
  by_cases hb : i < 0 ∨ (n : Int) ≤ i
  · have e1 : pathL k i ss = [] := by rw [pathL, HL.out, if_pos hb]
    have e2 : pathR i n = 81 := by rw [pathR, if_pos hb]
    rw [e1, e2] at HM
    clear e1 e2 hS hT hsz
    rcases hb with h | h
    all_goals
      go_enter Tryd.func10, Tryd.ntmps10
      go_wp2_with fail
      refine HM.out.mono ?_; rintro e w1 ⟨v, rfl, O1, B1⟩
      obtain ⟨A1, c1, rfl, _, _⟩ := O1.shape
      clear O1
      go_wp2
      go_ret
      exact ⟨by simp, B1⟩
  · obtain ⟨j, rfl⟩ := Int.eq_ofNat_of_zero_le (show 0 ≤ i by omega)
    have hj : j < n := by omega
    have hj' : (j : Int) < (n : Int) := by omega
    have e1 : pathL k (j : Int) ss = path k j ss := by rw [pathL, HL.out, if_neg hb, Int.toNat_natCast]
    have e2 : pathR (j : Int) n = 0 := by rw [pathR, if_neg hb]
    rw [e1, e2] at HM
    have hz := All.getD (ss := ss) hsz j
    have HLF : Hid (∀ W, Below w.heap.size w W → Calls Tryd.prog 17 #[.int .i64 k, .string (ss.getD j ⟨#[]⟩)] W (Gives (leafH k (ss.getD j ⟨#[]⟩)) W)) := Lib.hid fun W hb => leaf_calls k _ (by omega) W (hT.below hb)
    have HCL : Hid (∀ W B d, Below w.heap.size w W → Strs W B (path k j ss).length (path k j ss) → (path k j ss).length ≤ d → Calls Tryd.prog 35 #[.int .i64 k, .int .i64 (j : Int), .int .i64 (n : Int), .string (leafH k (ss.getD j ⟨#[]⟩)), .slice B (path k j ss).length d] W (Climbed (root k ss) W)) :=
      Lib.hid fun W B d hb hs hd => climbed_calls k n j n ss _ B _ d W (Nat.le_refl _) HL.out hj (by omega) rfl hs hd (hT.below hb)
    have HRT : Hid (∀ W, Below w.heap.size w W → Calls Tryd.prog 24 #[.int .i64 k, .slice A n c] W (Gives (root k ss) W)) := Lib.hid fun W hb => mroot_calls k n A n c ss W (Nat.le_refl _) (hS.below hb) hnc (by omega) hsz (hT.below hb)
    have HS := Lib.hid hS
    generalize path k j ss = ps at *
    generalize root k ss = t at *
    clear e1 e2 hS hT hsz
    go_enter Tryd.func10, Tryd.ntmps10
    go_wp2_with fail
    refine HM.out.mono ?_; rintro e w1 ⟨v, rfl, O1, B1⟩
    obtain ⟨A1, c1, rfl, hc1, P1⟩ := O1.shape
    have q1 := B1.size
    obtain ⟨ad, hA, hab, hcell⟩ := (HS.out.below B1).at_ j hj
    clear O1
    subst hA
    go_wp2_with fail
    refine (HLF.out _ B1).mono ?_; rintro e w2 ⟨rfl, C2⟩
    have P2 := P1.below C2
    have B2 := B1.trans (C2.mono q1)
    have q2 := B2.size
    clear C2 B1 P1 hcell
    go_wp2_with fail
    refine (HCL.out _ A1 c1 B2 P2 hc1).mono ?_; rintro e w3 ⟨rfl, C3⟩
    have B3 := B2.trans (C3.mono q2)
    have q3 := B3.size
    clear C3 B2 P2
    go_wp2_with fail
    refine (HRT.out _ B3).mono ?_; rintro e w4 ⟨rfl, C4⟩
    have B4 := B3.trans (C4.mono q3)
    clear C4 B3
    go_wp2
    go_ret
    exact ⟨by simp, B4⟩
theorem mthLeads_walk (k i : Int) (A : Option Addr) (n c : Nat) (ss : List ByteArray) (w : World) (_ : (Lit.int .i64 k).wf = true) (_ : (Lit.int .i64 i).wf = true) (hC : Came w A n c ss) (h3 : ∀ i : Nat, i < 8 → w.cell? ⟨2, i, none⟩ = some (.int .u32 (Ints I0.list i))) (h4 : ∀ i : Nat, i < 64 → w.cell? ⟨3, i, none⟩ = some (.int .u32 (Ints K0 i))) :
    Calls Tryd.prog 10 #[.int .i64 k, .int .i64 i, .slice A n c] w fun e w' => e = .returned (.bool true) ∧ Below w.heap.size w w' :=
  mthLeads_in k i A n c ss w hC (tab_of h3 h4)
end Go.Proofs.YtcenfedmbicofaaDoor.Mth
