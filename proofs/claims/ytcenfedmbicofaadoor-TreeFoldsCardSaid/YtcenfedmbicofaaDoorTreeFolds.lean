/- TreeFolds: its walk. -/
import Derived.Test.YtcenfedmbicofaaDoorRooted
import Derived.Test.YtcenfedmbicofaaDoorCover
import Derived.Test.YtcenfedmbicofaaDoorAddrs
set_option linter.unusedVariables false
set_option linter.unusedSimpArgs false
namespace Go.Proofs.YtcenfedmbicofaaDoor.Folds
open Go.RowKit Go.Proofs.YtcenfedmbicofaaDoor.Base Go.Proofs.YtcenfedmbicofaaDoor.Mem Go.Proofs.YtcenfedmbicofaaDoor.Strs Go.Proofs.YtcenfedmbicofaaDoor.ShaDig Go.Proofs.YtcenfedmbicofaaDoor.TreeHash Go.Proofs.YtcenfedmbicofaaDoor.Fold Go.Proofs.YtcenfedmbicofaaDoor.Cov
open Go.Proofs.YtcenfedmbicofaaDoor.Lst (OwnA OwnA.shape Adr Adr.below Adr.at2)

theorem chain {w W W' : World} (B : Below w.heap.size w W) (C : Below W.heap.size W W') : Below w.heap.size w W' := B.trans (C.mono B.size)
theorem num_calls (a : Int) (w : World) : Calls Tryd.prog 43 #[.int .i64 a] w fun e w' => e = .returned (.int .i64 a) ∧ w = w' := by
  go_enter Tryd.func43, Tryd.ntmps43
  go_wp2
  go_ret
  simp
theorem fold_any (k : Int) (A : Option Addr) (n c : Nat) (ss : List ByteArray) (w : World) (hS : Strs w A n ss) (hc : n ≤ c) (hn : n ≤ 8796093022208) (hs : Fit ss) (hT : Tab w) :
    Calls Tryd.prog 21 #[.int .i64 k, .slice A n c] w (Gives (foldH k ss) w) := by
  by_cases h0 : n = 0
  · subst h0
    obtain rfl : ss = [] := List.eq_nil_of_length_eq_zero hS.len
    exact fold_nil k A c w hT
  · exact fold_calls k A n c ss w hS hc (by omega) hn hs hT
theorem rt_wid (k : Int) (ss : List ByteArray) (h : ss.length ≠ 1) : (rt k ss).size = wid k := by
  by_cases h2 : 2 ≤ ss.length
  · rw [rt_node k ss h2, nodeH_size]
  · obtain rfl : ss = [] := List.eq_nil_of_length_eq_zero (by omega)
    rw [rt_nil, emptyH_size]
theorem tiles_mem {p hi : Nat} {l : List (Nat × Nat)} (h : Tiles p hi l) : ∀ x ∈ l, x.1 ≤ 62 ∧ (x.2 + 1) * 2 ^ x.1 ≤ hi := by
  induction h with
  | done => intro x hx; cases hx
  | @step p hi k j l e hk ht ih =>
    intro x hx
    rcases List.mem_cons.1 hx with rfl | hx
    · refine ⟨hk, ?_⟩
      have := ht.le
      show (j + 1) * 2 ^ k ≤ hi
      rw [Nat.add_mul, Nat.one_mul]; omega
    · exact ih x hx
theorem piece_at (n : Nat) (hn : n ≤ 2000) (i : Nat) (hi : i < (greedy 0 n).length) : ((greedy 0 n).getD i (0, 0)).1 ≤ 62 ∧ (((greedy 0 n).getD i (0, 0)).2 + 1) * 2 ^ ((greedy 0 n).getD i (0, 0)).1 ≤ n := by
  refine tiles_mem (greedy_tiles (p := 0) (hi := n) (by omega) (by omega)) _ ?_
  rw [List.getD_eq_getElem?_getD, List.getElem?_eq_getElem hi]
  exact List.getElem_mem hi
theorem take_roots (k : Int) (ss : List ByteArray) (l : List (Nat × Nat)) (i : Nat) (hi : i < l.length) : (roots k ss l).take (i + 1) = (roots k ss l).take i ++ [rt k (part ss (l.getD i (0, 0)))] := by
  rw [List.take_succ_eq_append_getElem (by simpa [roots] using hi)]
  congr 1
  simp [roots, List.getD_eq_getElem?_getD, hi]
theorem part_cut (ss : List ByteArray) (x : Nat × Nat) : part ss x = (ss.take ((x.2 + 1) * 2 ^ x.1)).drop (x.2 * 2 ^ x.1) := by
  unfold part
  rw [List.drop_take]
  congr 1
  rw [Nat.add_mul, Nat.one_mul, Nat.add_sub_cancel_left]
set_option maxRecDepth 100000 in
set_option maxHeartbeats 8000000 in
theorem treeFolds_walk (k : Int) (A : Option Addr) (n c : Nat) (ss : List ByteArray) (w : World) (_ : (Lit.int .i64 k).wf = true) (hcm : Came w A n c ss)
    (h8 : ∀ i : Nat, i < 8 → w.cell? ⟨2, i, none⟩ = some (.int .u32 ((I0.list.map fun x : Nat => (x : Int)).getD i 0))) (h64 : ∀ i : Nat, i < 64 → w.cell? ⟨3, i, none⟩ = some (.int .u32 ((K0.map fun x : Nat => (x : Int)).getD i 0))) :
    Calls Tryd.prog 14 #[.int .i64 k, .slice A n c] w fun e w' => e = .returned (.bool true) ∧ Below w.heap.size w w' := by
  have hT := tab_of h8 h64
  obtain ⟨hS, hc, hcc, hsz⟩ := hcm
  have hfit : Fit ss := fun s h => by have := hsz s h; omega
  have hl := hS.len
  clear h8 h64 hsz
  by_cases hn : n ≤ 2000
  · have hgt : ¬ (2000 : Int) < (n : Int) := by omega
    obtain ⟨ts, hts⟩ : ∃ ts, ts = ss := ⟨_, rfl⟩
    rw [← hts] at hS hfit hl
    clear hts
    have HM := Lib.hid (fun W => Cover.mcover_yes 0 n W (by omega) (by omega))
    have hlen := greedy_len 0 n (by omega) (by omega)
    have HSp : Hid (∀ i, i < (greedy 0 n).length → ∀ W, Calls Tryd.prog 33 #[.agg #[.int .i64 (((greedy 0 n).getD i (0, 0)).1 : Int), .int .i64 (((greedy 0 n).getD i (0, 0)).2 : Int)]] W (Addrs.SpanYes (((greedy 0 n).getD i (0, 0)).2 * 2 ^ ((greedy 0 n).getD i (0, 0)).1) ((((greedy 0 n).getD i (0, 0)).2 + 1) * 2 ^ ((greedy 0 n).getD i (0, 0)).1) W)) :=
      Lib.hid fun i hi W => by obtain ⟨q1, q2⟩ := piece_at n (by omega) i hi; exact Addrs.mSpan_yes _ _ W q1 (by omega)
    have HPc : Hid (∀ i, i < (greedy 0 n).length → (((greedy 0 n).getD i (0, 0)).2 + 1) * 2 ^ ((greedy 0 n).getD i (0, 0)).1 ≤ n) := Lib.hid fun i hi => (piece_at n (by omega) i hi).2
    have HRt := Lib.hid (fun A n c ss W hs h1 h2 h3 h4 => rooted_calls k n A n c ss W (Nat.le_refl _) hs h1 h2 h3 h4)
    have HFo := Lib.hid (folds k ts (by omega))
    have HRe := Lib.hid (roots_empty k ts (by omega))
    have HRf := Lib.hid (fun l => show Fit (roots k ts l) from fun s h => by
      obtain ⟨x, _, rfl⟩ := List.mem_map.1 h
      exact rt_fit k 140737488351300 (by omega) _ _ (Nat.le_refl _) (fun s h => hfit s (by rw [part_cut] at h; exact List.mem_of_mem_take (List.mem_of_mem_drop h))))
    have HS := Lib.hid hS
    have HT := Lib.hid hT
    have HL := Lib.hid hl
    have HFT := Lib.hid hfit
    clear hS hT hl hfit
    go_enter Tryd.func14, Tryd.ntmps14
    go_wp2_with fail
    refine (HM.out _).mono ?_
    rintro e w1 ⟨v1, rfl, o1, _, b1⟩
    obtain ⟨B, d, rfl, _, s1, _⟩ := OwnA.shape o1
    have HA := Lib.hid s1
    have HB := Lib.hid b1
    clear s1 o1 b1
    go_wp2_with (go_at_call 43; ((with_reducible refine (num_calls _ _).mono ?_); rintro e w' ⟨rfl, rfl⟩))
    go_loopw [7, 8] (fun s i wr => ∃ (v : Value) (j : Nat), v = s ∧ i = .int .i64 (j : Int) ∧ j ≤ (greedy 0 n).length ∧ Hid (Strs.Own wr w1.heap.size v ((roots k ts (greedy 0 n)).take j)) ∧ Hid (Below w1.heap.size w1 wr)) (fun _ i _ => (greedy 0 n).length - (intOf i).toNat)
    case atStart => exact ⟨_, 0, rfl, rfl, by omega, Lib.hid (by rw [List.take_zero]; exact Strs.Own.nil _ _), Lib.hid (Below.refl _ _)⟩
    case round =>
      obtain ⟨v, j, rfl, rfl, hj, ho, hb⟩ := hrel
      by_cases hlt : j < (greedy 0 n).length
      · obtain ⟨ad, X, rfl, hab, hX, hXb, a1, a2⟩ := (HA.out.below hb.out).at2 j hlt
        have hSp := HSp.out j hlt wr
        have hpc := HPc.out j hlt
        have htk := take_roots k ts (greedy 0 n) j hlt
        rw [part_cut] at htk
        have hle : ((greedy 0 n).getD j (0, 0)).2 * 2 ^ ((greedy 0 n).getD j (0, 0)).1 ≤ (((greedy 0 n).getD j (0, 0)).2 + 1) * 2 ^ ((greedy 0 n).getD j (0, 0)).1 := Nat.mul_le_mul_right _ (by omega)
        generalize hLO : ((greedy 0 n).getD j (0, 0)).2 * 2 ^ ((greedy 0 n).getD j (0, 0)).1 = LO at *
        generalize hHI : (((greedy 0 n).getD j (0, 0)).2 + 1) * 2 ^ ((greedy 0 n).getD j (0, 0)).1 = HI at *
        have hrc : ∀ W, Below w.heap.size w W → Calls Tryd.prog 44 #[.int .i64 k, .slice (cutA A LO c) (HI - LO) (c - LO)] W (Gives (rt k ((ts.take HI).drop LO)) W) := fun W hW =>
          HRt.out _ _ _ _ W ((HS.out.below hW).cut LO HI c hle hpc (by omega)) (by omega) (by omega) (fun s h => HFT.out s (List.mem_of_mem_take (List.mem_of_mem_drop h))) (HT.out.below hW)
        have HRC := Lib.hid hrc
        have HTK := Lib.hid htk
        have HSPA := Lib.hid hSp
        have hcut := fun W => run_cut_lh W A n c LO HI hle (by omega)
        have h61 : ¬ (n : Int) < (HI : Int) := by omega
        have h62 : ¬ (HI : Int) < (LO : Int) := by omega
        have h61d : decide ((n : Int) < (HI : Int)) = false := decide_eq_false h61
        have h62d : decide ((HI : Int) < (LO : Int)) = false := decide_eq_false h62
        have h61n : decide (n < HI) = false := decide_eq_false (by omega)
        have h62n : decide (HI < LO) = false := decide_eq_false (by omega)
        have h63 : ¬ (LO : Int) < 0 := by omega
        have h63d : decide ((LO : Int) < 0) = false := decide_eq_false h63
        clear hSp hpc htk hrc hLO hHI hXb
        generalize ((greedy 0 n).getD j (0, 0)).1 = z1 at *
        generalize ((greedy 0 n).getD j (0, 0)).2 = z2 at *
        generalize rt k ((ts.take HI).drop LO) = RT at *
        have hplen : ((roots k ts (greedy 0 n)).take j).length + 1 ≤ 8796093022208 := by rw [List.length_take]; simp [roots]; omega
        have HPL := Lib.hid hplen
        clear hplen
        go_wp2_with fail
        refine HSPA.out.mono ?_
        rintro e w2 ⟨rfl, b2⟩
        have HB2 := Lib.hid (chain hb.out b2)
        have HO2 := Lib.hid (Strs.Own.below ho.out b2)
        have HW2 := Lib.hid (chain HB.out HB2.out)
        clear b2 a1 a2
        go_wp2_with (go_at_call 43; ((with_reducible refine (num_calls _ _).mono ?_); rintro e w' ⟨rfl, rfl⟩))
        refine (HRC.out _ HW2.out).mono ?_
        rintro e w3 ⟨rfl, b3⟩
        have HB3 := Lib.hid (chain HB2.out b3)
        have HO3 := Lib.hid (Strs.Own.below HO2.out b3)
        clear b3
        go_wp2_with (at_builtin; refine wpList_app1 w1.heap.size rfl (.tmp 62) (.tmp 69) rfl v _ RT rfl rfl HO3.out HB3.out HB3.out.size HPL.out ?_; intro v2 w4 ho2 hb2 _ _; rw [← HTK.out] at ho2; have HO4 := Lib.hid ho2; have HB4 := Lib.hid hb2; clear ho2 hb2)
        go_roundw
        case rel => exact ⟨_, j + 1, rfl, by go_num, by omega, HO4, HB4⟩
        case measure => simp only [intOf]; omega
      · have hjl : j = (greedy 0 n).length := by omega
        subst hjl
        have hrl : (roots k ts (greedy 0 n)).length = (greedy 0 n).length := by simp [roots]
        have ho' := ho.out
        rw [List.take_of_length_le (by omega)] at ho'
        obtain ⟨B2, d2, rfl, hd2, s2⟩ := Strs.Own.shape ho'
        have HW := Lib.hid (chain HB.out hb.out)
        have HFC := Lib.hid (fold_any k B2 _ d2 _ wr s2 hd2 (by rw [hrl]; omega) (HRf.out _) (HT.out.below HW.out))
        have hfo := HFo.out
        rw [HL.out] at hfo
        rw [hfo] at HFC
        have hre := HRe.out
        rw [HL.out] at hre
        have hwid := (wid_le k).1
        have HRC := Lib.hid (fun W hW => HRt.out A n c ts W (HS.out.below hW) (by omega) (by omega) HFT.out (HT.out.below hW))
        have HEC := Lib.hid (fun W (hW : Below w.heap.size w W) => empty_calls k W (HT.out.below hW))
        have hez := emptyH_size k
        clear hfo hrl ho' s2
        generalize (roots k ts (greedy 0 n)).length = ml at *
        generalize (greedy 0 n).length = gl at *
        by_cases hz : n = 0
        · have hm0 : ml = 0 := hre.2 hz
          have hsz := rt_wid k ts (by rw [HL.out]; omega)
          subst hz hm0
          generalize rt k ts = RT at *
          have hwi : (1 : Int) ≤ (wid k : Int) := by omega
          clear hre
          go_wp2_with fail
          refine HFC.out.mono ?_
          rintro e w5 ⟨rfl, b5⟩
          have HW5 := Lib.hid (chain HW.out b5)
          clear b5
          go_wp2_with fail
          refine (HRC.out _ HW5.out).mono ?_
          rintro e w6 ⟨rfl, b6⟩
          have HW6 := Lib.hid (chain HW5.out b6)
          clear b6
          go_wp2_with fail
          refine (HEC.out _ HW6.out).mono ?_
          rintro e w7 ⟨rfl, b7⟩
          have HW7 := Lib.hid (chain HW6.out b7)
          clear b7
          go_wp2
          go_ret
          exact ⟨by simp, HW7.out⟩
        · by_cases h1 : n = 1
          · obtain ⟨ad, hA1, _, hc1⟩ := HS.out.at_ 0 (by omega)
            have hrt : rt k ts = ts.getD 0 ⟨#[]⟩ := by
              rw [Mth.one_of (l := ts) (by rw [HL.out]; exact h1), rt_one]; rfl
            rw [hrt] at HRC HFC
            have hab := World.block_lt_of_cell? w _ hc1
            rw [Strs.add_zero] at hc1 hab
            have HC1 := Lib.hid hc1
            have HAB := Lib.hid hab
            subst hA1 h1
            have hwi : (1 : Int) ≤ (wid k : Int) := by omega
            clear hrt hc1 hab hre
            generalize ts.getD 0 ⟨#[]⟩ = RT at *
            go_wp2_with fail
            refine HFC.out.mono ?_
            rintro e w5 ⟨rfl, b5⟩
            have HW5 := Lib.hid (chain HW.out b5)
            clear b5
            go_wp2_with fail
            refine (HRC.out _ HW5.out).mono ?_
            rintro e w6 ⟨rfl, b6⟩
            have HW6 := Lib.hid (chain HW5.out b6)
            clear b6
            go_wp2_with fail
            refine (HEC.out _ HW6.out).mono ?_
            rintro e w7 ⟨rfl, b7⟩
            have HW7 := Lib.hid (chain HW6.out b7)
            clear b7
            have hc7 : w7.cell? ad = some (.string RT) := (HW7.out.cell HAB.out).trans HC1.out
            go_wp2
            go_ret
            exact ⟨by simp, HW7.out⟩
          · have hm0 : ¬ ml = 0 := fun h => hz (hre.1 h)
            have hsz := rt_wid k ts (by rw [HL.out]; omega)
            generalize rt k ts = RT at *
            have hwi : (1 : Int) ≤ (wid k : Int) := by omega
            have hn0 : ((n : Int) == 0) = false := by rw [beq_eq_false_iff_ne]; omega
            have hn1 : ((n : Int) == 1) = false := by rw [beq_eq_false_iff_ne]; omega
            have hm1 : ((ml : Int) == 0) = false := by rw [beq_eq_false_iff_ne]; omega
            clear hre
            go_wp2_with fail
            refine HFC.out.mono ?_
            rintro e w5 ⟨rfl, b5⟩
            have HW5 := Lib.hid (chain HW.out b5)
            clear b5
            go_wp2_with fail
            refine (HRC.out _ HW5.out).mono ?_
            rintro e w6 ⟨rfl, b6⟩
            have HW6 := Lib.hid (chain HW5.out b6)
            clear b6
            go_wp2_with fail
            refine (HEC.out _ HW6.out).mono ?_
            rintro e w7 ⟨rfl, b7⟩
            have HW7 := Lib.hid (chain HW6.out b7)
            clear b7
            go_wp2
            go_ret
            exact ⟨by simp, HW7.out⟩
  · have hgt : (2000 : Int) < (n : Int) := by omega
    obtain ⟨ts, hts⟩ : ∃ ts, ts = ss.take 2000 := ⟨_, rfl⟩
    have hS := hS.take 2000 (by omega)
    have hfit : Fit (ss.take 2000) := fun s h => hfit s (List.mem_of_mem_take h)
    have hl := hS.len
    rw [← hts] at hS hfit hl
    have hcut0 : ∀ W, (Instr.slice 26 (.slice A n c) none (some (.int .i64 2000)) none).run Tryd.prog W = .ok (.slice A 2000 c) W := fun W => by simpa using run_cut_h W A n c 2000 (by omega)
    have hc : 2000 ≤ c := by omega
    clear hts
    have HM := Lib.hid (fun W => Cover.mcover_yes 0 2000 W (by omega) (by omega))
    have hlen := greedy_len 0 2000 (by omega) (by omega)
    have HSp : Hid (∀ i, i < (greedy 0 2000).length → ∀ W, Calls Tryd.prog 33 #[.agg #[.int .i64 (((greedy 0 2000).getD i (0, 0)).1 : Int), .int .i64 (((greedy 0 2000).getD i (0, 0)).2 : Int)]] W (Addrs.SpanYes (((greedy 0 2000).getD i (0, 0)).2 * 2 ^ ((greedy 0 2000).getD i (0, 0)).1) ((((greedy 0 2000).getD i (0, 0)).2 + 1) * 2 ^ ((greedy 0 2000).getD i (0, 0)).1) W)) :=
      Lib.hid fun i hi W => by obtain ⟨q1, q2⟩ := piece_at 2000 (by omega) i hi; exact Addrs.mSpan_yes _ _ W q1 (by omega)
    have HPc : Hid (∀ i, i < (greedy 0 2000).length → (((greedy 0 2000).getD i (0, 0)).2 + 1) * 2 ^ ((greedy 0 2000).getD i (0, 0)).1 ≤ 2000) := Lib.hid fun i hi => (piece_at 2000 (by omega) i hi).2
    have HRt := Lib.hid (fun A n c ss W hs h1 h2 h3 h4 => rooted_calls k n A n c ss W (Nat.le_refl _) hs h1 h2 h3 h4)
    have HFo := Lib.hid (folds k ts (by omega))
    have HRe := Lib.hid (roots_empty k ts (by omega))
    have HRf := Lib.hid (fun l => show Fit (roots k ts l) from fun s h => by
      obtain ⟨x, _, rfl⟩ := List.mem_map.1 h
      exact rt_fit k 140737488351300 (by omega) _ _ (Nat.le_refl _) (fun s h => hfit s (by rw [part_cut] at h; exact List.mem_of_mem_take (List.mem_of_mem_drop h))))
    have HS := Lib.hid hS
    have HT := Lib.hid hT
    have HL := Lib.hid hl
    have HFT := Lib.hid hfit
    clear hS hT hl hfit
    go_enter Tryd.func14, Tryd.ntmps14
    go_wp2_with fail
    refine (HM.out _).mono ?_
    rintro e w1 ⟨v1, rfl, o1, _, b1⟩
    obtain ⟨B, d, rfl, _, s1, _⟩ := OwnA.shape o1
    have HA := Lib.hid s1
    have HB := Lib.hid b1
    clear s1 o1 b1
    go_wp2_with (go_at_call 43; ((with_reducible refine (num_calls _ _).mono ?_); rintro e w' ⟨rfl, rfl⟩))
    go_loopw [7, 8] (fun s i wr => ∃ (v : Value) (j : Nat), v = s ∧ i = .int .i64 (j : Int) ∧ j ≤ (greedy 0 2000).length ∧ Hid (Strs.Own wr w1.heap.size v ((roots k ts (greedy 0 2000)).take j)) ∧ Hid (Below w1.heap.size w1 wr)) (fun _ i _ => (greedy 0 2000).length - (intOf i).toNat)
    case atStart => exact ⟨_, 0, rfl, rfl, by omega, Lib.hid (by rw [List.take_zero]; exact Strs.Own.nil _ _), Lib.hid (Below.refl _ _)⟩
    case round =>
      obtain ⟨v, j, rfl, rfl, hj, ho, hb⟩ := hrel
      by_cases hlt : j < (greedy 0 2000).length
      · obtain ⟨ad, X, rfl, hab, hX, hXb, a1, a2⟩ := (HA.out.below hb.out).at2 j hlt
        have hSp := HSp.out j hlt wr
        have hpc := HPc.out j hlt
        have htk := take_roots k ts (greedy 0 2000) j hlt
        rw [part_cut] at htk
        have hle : ((greedy 0 2000).getD j (0, 0)).2 * 2 ^ ((greedy 0 2000).getD j (0, 0)).1 ≤ (((greedy 0 2000).getD j (0, 0)).2 + 1) * 2 ^ ((greedy 0 2000).getD j (0, 0)).1 := Nat.mul_le_mul_right _ (by omega)
        generalize hLO : ((greedy 0 2000).getD j (0, 0)).2 * 2 ^ ((greedy 0 2000).getD j (0, 0)).1 = LO at *
        generalize hHI : (((greedy 0 2000).getD j (0, 0)).2 + 1) * 2 ^ ((greedy 0 2000).getD j (0, 0)).1 = HI at *
        have hrc : ∀ W, Below w.heap.size w W → Calls Tryd.prog 44 #[.int .i64 k, .slice (cutA A LO c) (HI - LO) (c - LO)] W (Gives (rt k ((ts.take HI).drop LO)) W) := fun W hW =>
          HRt.out _ _ _ _ W ((HS.out.below hW).cut LO HI c hle hpc (by omega)) (by omega) (by omega) (fun s h => HFT.out s (List.mem_of_mem_take (List.mem_of_mem_drop h))) (HT.out.below hW)
        have HRC := Lib.hid hrc
        have HTK := Lib.hid htk
        have HSPA := Lib.hid hSp
        have hcut := fun W => run_cut_lh W A 2000 c LO HI hle (by omega)
        have h61 : ¬ (2000 : Int) < (HI : Int) := by omega
        have h62 : ¬ (HI : Int) < (LO : Int) := by omega
        have h61d : decide ((2000 : Int) < (HI : Int)) = false := decide_eq_false h61
        have h62d : decide ((HI : Int) < (LO : Int)) = false := decide_eq_false h62
        have h61n : decide (2000 < HI) = false := decide_eq_false (by omega)
        have h62n : decide (HI < LO) = false := decide_eq_false (by omega)
        have h63 : ¬ (LO : Int) < 0 := by omega
        have h63d : decide ((LO : Int) < 0) = false := decide_eq_false h63
        clear hSp hpc htk hrc hLO hHI hXb
        generalize ((greedy 0 2000).getD j (0, 0)).1 = z1 at *
        generalize ((greedy 0 2000).getD j (0, 0)).2 = z2 at *
        generalize rt k ((ts.take HI).drop LO) = RT at *
        have hplen : ((roots k ts (greedy 0 2000)).take j).length + 1 ≤ 8796093022208 := by rw [List.length_take]; simp [roots]; omega
        have HPL := Lib.hid hplen
        clear hplen
        go_wp2_with fail
        refine HSPA.out.mono ?_
        rintro e w2 ⟨rfl, b2⟩
        have HB2 := Lib.hid (chain hb.out b2)
        have HO2 := Lib.hid (Strs.Own.below ho.out b2)
        have HW2 := Lib.hid (chain HB.out HB2.out)
        clear b2 a1 a2
        go_wp2_with (go_at_call 43; ((with_reducible refine (num_calls _ _).mono ?_); rintro e w' ⟨rfl, rfl⟩))
        refine (HRC.out _ HW2.out).mono ?_
        rintro e w3 ⟨rfl, b3⟩
        have HB3 := Lib.hid (chain HB2.out b3)
        have HO3 := Lib.hid (Strs.Own.below HO2.out b3)
        clear b3
        go_wp2_with (at_builtin; refine wpList_app1 w1.heap.size rfl (.tmp 62) (.tmp 69) rfl v _ RT rfl rfl HO3.out HB3.out HB3.out.size HPL.out ?_; intro v2 w4 ho2 hb2 _ _; rw [← HTK.out] at ho2; have HO4 := Lib.hid ho2; have HB4 := Lib.hid hb2; clear ho2 hb2)
        go_roundw
        case rel => exact ⟨_, j + 1, rfl, by go_num, by omega, HO4, HB4⟩
        case measure => simp only [intOf]; omega
      · have hjl : j = (greedy 0 2000).length := by omega
        subst hjl
        have hrl : (roots k ts (greedy 0 2000)).length = (greedy 0 2000).length := by simp [roots]
        have ho' := ho.out
        rw [List.take_of_length_le (by omega)] at ho'
        obtain ⟨B2, d2, rfl, hd2, s2⟩ := Strs.Own.shape ho'
        have HW := Lib.hid (chain HB.out hb.out)
        have HFC := Lib.hid (fold_any k B2 _ d2 _ wr s2 hd2 (by rw [hrl]; omega) (HRf.out _) (HT.out.below HW.out))
        have hfo := HFo.out
        rw [HL.out] at hfo
        rw [hfo] at HFC
        have hre := HRe.out
        rw [HL.out] at hre
        have hwid := (wid_le k).1
        have HRC := Lib.hid (fun W hW => HRt.out A 2000 c ts W (HS.out.below hW) (by omega) (by omega) HFT.out (HT.out.below hW))
        have HEC := Lib.hid (fun W (hW : Below w.heap.size w W) => empty_calls k W (HT.out.below hW))
        have hez := emptyH_size k
        clear hfo hrl ho' s2
        generalize (roots k ts (greedy 0 2000)).length = ml at *
        generalize (greedy 0 2000).length = gl at *
        have hm0 : ¬ ml = 0 := fun h => absurd (hre.1 h) (by omega)
        have hsz := rt_wid k ts (by rw [HL.out]; omega)
        generalize rt k ts = RT at *
        have hwi : (1 : Int) ≤ (wid k : Int) := by omega
        have hn0 : ((2000 : Int) == 0) = false := by rw [beq_eq_false_iff_ne]; omega
        have hn1 : ((2000 : Int) == 1) = false := by rw [beq_eq_false_iff_ne]; omega
        have hm1 : ((ml : Int) == 0) = false := by rw [beq_eq_false_iff_ne]; omega
        clear hre
        go_wp2_with fail
        refine HFC.out.mono ?_
        rintro e w5 ⟨rfl, b5⟩
        have HW5 := Lib.hid (chain HW.out b5)
        clear b5
        go_wp2_with fail
        refine (HRC.out _ HW5.out).mono ?_
        rintro e w6 ⟨rfl, b6⟩
        have HW6 := Lib.hid (chain HW5.out b6)
        clear b6
        go_wp2_with fail
        refine (HEC.out _ HW6.out).mono ?_
        rintro e w7 ⟨rfl, b7⟩
        have HW7 := Lib.hid (chain HW6.out b7)
        clear b7
        go_wp2
        go_ret
        exact ⟨by simp, HW7.out⟩
end Go.Proofs.YtcenfedmbicofaaDoor.Folds
