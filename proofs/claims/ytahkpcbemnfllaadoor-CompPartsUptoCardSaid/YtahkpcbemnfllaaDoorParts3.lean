/- CompParts, CompWork: their walks. -/
import Derived.Test.YtahkpcbemnfllaaDoorParts2
set_option linter.unusedVariables false
set_option linter.unusedSimpArgs false
namespace Go.Proofs.YtahkpcbemnfllaaDoor.Comp
open Go.RowKit Go.Proofs.YtahkpcbemnfllaaDoor.Base Go.Proofs.YtahkpcbemnfllaaDoor.Mem Go.Proofs.YtahkpcbemnfllaaDoor.Strs Go.Proofs.YtahkpcbemnfllaaDoor.ShaDig Go.Proofs.YtahkpcbemnfllaaDoor.TreeHash Go.Proofs.YtahkpcbemnfllaaDoor.Cov
open Go.Proofs.YtahkpcbemnfllaaDoor.Lst (OwnA Adr OwnA.shape Kp own_below Lst ac ac_append ac_length infoAddr own_lt own_base own_shape own_kp)

set_option maxRecDepth 100000 in
set_option maxHeartbeats 40000000 in
theorem compParts_in (k : Int) (A : Option Addr) (n c : Nat) (ss : List ByteArray) (z i j : Int) (w : World) (hC : Came w A n c ss) (hu : ∀ s ∈ ss, s.size ≤ 1048576) (hv : ss.length ≤ 1048576) (hT : Tab w) :
    Calls Tryd.prog 7 #[.int .i64 k, .slice A n c, .int .i64 z, .int .i64 i, .int .i64 j] w fun e w' => e = .returned (.bool true) ∧ Below w.heap.size w w' := by
  obtain ⟨hS, hnc, hcc, hsz⟩ := hC
  have hl := hS.len
  have hn : n ≤ 1048576 := by omega
  have HLV := Lib.hid (leaves_calls k A n c ss w hS hn (fun s h => by have := hu s h; omega) hT)
  have HT := Lib.hid hT
  have HPL := Lib.hid (fun W => place_calls z n hn W)
  have hTn := placeN_le z n hn
  clear hS hsz hu hT hcc
  generalize placeN z n = T at *
  obtain ⟨f, hf⟩ : ∃ f, leafF k T ss = f := ⟨_, rfl⟩
  have HSZ : Hid (∀ p, (f p).size = wid k) := Lib.hid (fun p => by rw [← hf]; exact leafF_size k T ss p)
  obtain ⟨I, hI, hi⟩ : ∃ I : Nat, I ≤ n ∧ ((i < 0 ∧ I = n) ∨ (¬ i < 0 ∧ (n : Int) < i ∧ I = n) ∨ (¬ i < 0 ∧ ¬ (n : Int) < i ∧ i = (I : Int))) := by
    by_cases h1 : i < 0
    · exact ⟨n, Nat.le_refl _, .inl ⟨h1, rfl⟩⟩
    · by_cases h2 : (n : Int) < i
      · exact ⟨n, Nat.le_refl _, .inr (.inl ⟨h1, h2, rfl⟩)⟩
      · exact ⟨i.toNat, by omega, .inr (.inr ⟨h1, h2, by omega⟩)⟩
  obtain ⟨J, hIJ, hJ, hj⟩ : ∃ J : Nat, I ≤ J ∧ J ≤ n ∧ ((j < (I : Int) ∧ J = I) ∨ (¬ j < (I : Int) ∧ (n : Int) < j ∧ J = I) ∨ (¬ j < (I : Int) ∧ ¬ (n : Int) < j ∧ j = (J : Int))) := by
    by_cases h1 : j < (I : Int)
    · exact ⟨I, Nat.le_refl _, hI, .inl ⟨h1, rfl⟩⟩
    · by_cases h2 : (n : Int) < j
      · exact ⟨I, Nat.le_refl _, hI, .inr (.inl ⟨h1, h2, rfl⟩)⟩
      · exact ⟨j.toNat, by omega, by omega, .inr (.inr ⟨h1, h2, by omega⟩)⟩
  obtain ⟨t1, ht1⟩ : ∃ t1, t1 = T + I := ⟨_, rfl⟩
  obtain ⟨t2, ht2⟩ : ∃ t2, t2 = T + J := ⟨_, rfl⟩
  obtain ⟨t3, ht3⟩ : ∃ t3, t3 = T + n := ⟨_, rfl⟩
  have HO : Hid (T ≤ t1 ∧ t1 ≤ t2 ∧ t2 ≤ t3 ∧ t3 ≤ 4611686018427387904) := Lib.hid ⟨by omega, by omega, by omega, by omega⟩
  have HLN : Hid (∀ W B m, Strs W B m (hs k f T t3) → m ≤ 8796093022208 ∧ (greedy T t3).length = m) := Lib.hid (fun W B m h => by
    have h1 := h.len
    rw [hs_length] at h1
    have h2 := greedy_len T t3 (by omega) (by omega)
    exact ⟨by omega, h1⟩)
  have HSM : Hid (∀ W B1 B2 m c1 c2, Strs W B1 m (hs k f T t3) → Strs W B2 m (hs k f T t3) → m ≤ 8796093022208 → Calls Tryd.prog 17 #[fv (T : Int) (t3 : Int) B1 m c1, fv (T : Int) (t3 : Int) B2 m c2] W (fun e w' => e = .returned (.bool true) ∧ Below W.heap.size W w')) := Lib.hid (fun W B1 B2 m c1 c2 h1 h2 h3 => same_calls _ _ _ _ _ _ _ _ W h1 h2 h3)
  have HCH : Hid (∀ W B m c, Strs W B m (hs k f T t3) → m ≤ 8796093022208 → Calls Tryd.prog 18 #[.int .i64 k, fv (T : Int) (t3 : Int) B m c] W (fun e w' => e = .returned (.int .i64 0) ∧ Below W.heap.size W w')) := Lib.hid (fun W B m c h1 h2 => by
    have := check_calls k (T : Int) (t3 : Int) B m c (hs k f T t3) W h1 h2
    rw [chk_nodes HSZ.out (by omega) (by omega)] at this
    exact this)
  have e1 : (T : Int) + (I : Int) = (t1 : Int) := by omega
  have e2 : (T : Int) + (J : Int) = (t2 : Int) := by omega
  have e3 : (T : Int) + (n : Int) = (t3 : Int) := by omega
  have HCV := Lib.hid (fun W => mcover_calls (T : Int) (t3 : Int) W)
  rw [(cov_nat (show T ≤ t3 by omega) (by omega)).1, (cov_nat (show T ≤ t3 by omega) (by omega)).2] at HCV
  go_enter Tryd.func7, Tryd.ntmps7
  go_wp2_with fail
  refine HLV.out.mono ?_
  rintro e v0 ⟨vh, rfl, oh, b⟩
  obtain ⟨A1, c1, ev, hc1, hs1⟩ := oh.shape
  rw [List.length_map, hl] at ev hc1 hs1
  subst ev
  have HB := Lib.hid b
  have HH := Lib.hid hs1
  have HPA : Hid (∀ W, Below w.heap.size w W → Strs W A1 n (ss.map (leafH k)) → Calls Tryd.prog 29 #[.int .i64 k, .int .i64 (T : Int), .slice A1 n c1] W (PushedT k f T t3 W)) := Lib.hid (fun W hb hS =>
    pushedT_calls k f HSZ.out T n t3 (by omega) (by omega) A1 c1 _ W hS (fun i hi => by rw [← hf]; exact leafF_at k T ss i (by omega)) hn (HT.out.below hb))
  have HPB : Hid (∀ W, Below w.heap.size w W → Strs W A1 n (ss.map (leafH k)) → Calls Tryd.prog 29 #[.int .i64 k, .int .i64 (T : Int), .slice A1 I c1] W (PushedT k f T t1 W)) := Lib.hid (fun W hb hS =>
    pushedT_calls k f HSZ.out T I t1 (by omega) (by omega) A1 c1 _ W (hS.take I hI) (fun i hi => by
      rw [← hf]
      have := leafF_cut k T ss 0 I i (by omega) (by omega)
      rw [List.drop_zero, Nat.add_zero] at this
      exact this) (by omega) (HT.out.below hb))
  obtain ⟨D1, hD1⟩ : ∃ D1, J - I = D1 := ⟨_, rfl⟩
  obtain ⟨D2, hD2⟩ : ∃ D2, n - J = D2 := ⟨_, rfl⟩
  obtain ⟨Q1, hQ1⟩ : ∃ Q1, c1 - I = Q1 := ⟨_, rfl⟩
  obtain ⟨Q2, hQ2⟩ : ∃ Q2, c1 - J = Q2 := ⟨_, rfl⟩
  have HPC : Hid (∀ W, Below w.heap.size w W → Strs W A1 n (ss.map (leafH k)) → Calls Tryd.prog 29 #[.int .i64 k, .int .i64 (t1 : Int), .slice (cutA A1 I c1) D1 Q1] W (PushedT k f t1 t2 W)) := Lib.hid (fun W hb hS =>
    by rw [← hD1, ← hQ1]; exact pushedT_calls k f HSZ.out t1 (J - I) t2 (by omega) (by omega) _ _ _ W (hS.cut I J c1 hIJ hJ (by omega)) (fun i hi => by
      rw [← hf, ht1]
      exact leafF_cut k T ss I J i (by omega) (by omega)) (by omega) (HT.out.below hb))
  have HPD : Hid (∀ W, Below w.heap.size w W → Strs W A1 n (ss.map (leafH k)) → Calls Tryd.prog 29 #[.int .i64 k, .int .i64 (t2 : Int), .slice (cutA A1 J c1) D2 Q2] W (PushedT k f t2 t3 W)) := Lib.hid (fun W hb hS =>
    by rw [← hD2, ← hQ2]; exact pushedT_calls k f HSZ.out t2 (n - J) t3 (by omega) (by omega) _ _ _ W (hS.cut_all J c1 hJ (by omega)) (fun i hi => by
      rw [← hf, ht2]
      have := leafF_cut k T ss J n i (by omega) (by omega)
      rw [List.take_of_length_le (by rw [List.length_map]; omega)] at this
      exact this) (by omega) (HT.out.below hb))
  have hcut1 : ∀ W, (Instr.slice 22 (.slice A1 n c1) none (some (.int .i64 (I : Int))) none).run Tryd.prog W = .ok (.slice A1 I c1) W := fun W => run_cut_h W A1 n c1 I (by omega)
  have hcut2 : ∀ W, (Instr.slice 22 (.slice A1 n c1) (some (.int .i64 (I : Int))) (some (.int .i64 (J : Int))) none).run Tryd.prog W = .ok (.slice (cutA A1 I c1) D1 Q1) W := fun W => by rw [← hD1, ← hQ1]; exact run_cut_lh W A1 n c1 I J hIJ (by omega)
  have hcut3 : ∀ W, (Instr.slice 22 (.slice A1 n c1) (some (.int .i64 (J : Int))) none none).run Tryd.prog W = .ok (.slice (cutA A1 J c1) D2 Q2) W := fun W => by rw [← hD2, ← hQ2]; exact run_cut_l W A1 n c1 J hJ
  clear oh b hs1 hf hD1 hD2 hQ1 hQ2
  have hs12 : J = I → t2 = t1 := fun h => by omega
  have hs13 : I = n → t1 = t3 := fun h => by omega
  clear ht1 ht2 ht3
  rcases hi with ⟨hi1, hIn⟩ | ⟨hi1, hi2, hIn⟩ | ⟨hi1, hi2, rfl⟩
  all_goals rcases hj with ⟨hj1, hJI⟩ | ⟨hj1, hj2, hJI⟩ | ⟨hj1, hj2, rfl⟩
  all_goals first | (have h9 := hs12 hJI; subst h9; subst hJI) | skip
  all_goals first | (have h9 := hs13 hIn; subst h9; subst hIn) | skip
  all_goals clear hs12 hs13
  all_goals first | have d1 := decide_eq_false hi1 | skip
  all_goals first | have d2 := decide_eq_false hi2 | skip
  all_goals first | have d3 := decide_eq_false hj1 | skip
  all_goals first | have d4 := decide_eq_false hj2 | skip
  all_goals (
    go_wp2_with fail
    refine (HPL.out _).mono ?_
    rintro e _ ⟨rfl, rfl⟩
    go_wp2_with fail
    refine (HPA.out _ HB.out HH.out).mono ?_
    rintro e v1 ⟨Ball, mall, call, Mall, Bxall, cxall, rfl, fs, hmc, hMall, b⟩
    have bb := chain b (Fr.grow fs call)
    have HF_all := Lib.hid (Fr.new fs hmc)
    replace HB := Lib.hid (chain HB.out bb)
    replace HH := Lib.hid (HH.out.below bb)
    have HMall := Lib.hid hMall
    clear fs hmc b bb hMall 
    go_wp2_with fail
    refine (HPB.out _ HB.out HH.out).mono ?_
    rintro e v2 ⟨Ba, ma, ca, Ma, Bxa, cxa, rfl, fs, hmc, hMa, b⟩
    have bb := chain b (Fr.grow fs ca)
    replace HF_all := Lib.hid (HF_all.out.call bb)
    have HF_a := Lib.hid (Fr.new fs hmc)
    replace HB := Lib.hid (chain HB.out bb)
    replace HH := Lib.hid (HH.out.below bb)
    have HMa := Lib.hid hMa
    clear fs hmc b bb hMa 
    go_wp2_with fail
    refine (HPC.out _ HB.out HH.out).mono ?_
    rintro e v3 ⟨Bb, mb, cb, Mb, Bxb, cxb, rfl, fs, hmc, hMb, b⟩
    have bb := chain b (Fr.grow fs cb)
    replace HF_all := Lib.hid (HF_all.out.call bb)
    replace HF_a := Lib.hid (HF_a.out.call bb)
    have HF_b := Lib.hid (Fr.new fs hmc)
    replace HB := Lib.hid (chain HB.out bb)
    replace HH := Lib.hid (HH.out.below bb)
    have HMb := Lib.hid hMb
    clear fs hmc b bb hMb 
    go_wp2_with fail
    refine (HPD.out _ HB.out HH.out).mono ?_
    rintro e v4 ⟨Bc, mc, cc, Mc, Bxc, cxc, rfl, fs, hmc, hMc, b⟩
    have bb := chain b (Fr.grow fs cc)
    replace HF_all := Lib.hid (HF_all.out.call bb)
    replace HF_a := Lib.hid (HF_a.out.call bb)
    replace HF_b := Lib.hid (HF_b.out.call bb)
    have HF_c := Lib.hid (Fr.new fs hmc)
    replace HB := Lib.hid (chain HB.out bb)
    replace HH := Lib.hid (HH.out.below bb)
    have HMc := Lib.hid hMc
    clear fs hmc b bb hMc 
    go_wp2_with fail
    refine (live_calls _).mono ?_
    rintro e v5 ⟨rfl, b⟩
    replace HF_all := Lib.hid (HF_all.out.call b)
    replace HF_a := Lib.hid (HF_a.out.call b)
    replace HF_b := Lib.hid (HF_b.out.call b)
    replace HF_c := Lib.hid (HF_c.out.call b)
    replace HB := Lib.hid (chain HB.out b)
    replace HH := Lib.hid (HH.out.below b)
    clear b 
    have a0 := HF_a.out.row.cell 0
    have a1 := HF_a.out.row.cell 1
    have a2 := HF_a.out.row.cell 2
    have b0 := HF_b.out.row.cell 0
    have b1 := HF_b.out.row.cell 1
    have b2 := HF_b.out.row.cell 2
    go_wp2_with fail
    refine (mergedT_calls k f HSZ.out _ _ _ (HO.out.1) (HO.out.2.1) (Nat.le_trans HO.out.2.2.1 HO.out.2.2.2) _ _ _ _ _ _ _ HF_a.out.fs HF_b.out.fs (HT.out.below HB.out)).mono ?_
    rintro e v6 ⟨Bab, mab, cab, Mab, Bxab, cxab, rfl, fs, hmc, hMab, b⟩
    have bb := chain b (Fr.grow fs cab)
    replace HF_all := Lib.hid (HF_all.out.call bb)
    replace HF_a := Lib.hid (HF_a.out.call bb)
    replace HF_b := Lib.hid (HF_b.out.call bb)
    replace HF_c := Lib.hid (HF_c.out.call bb)
    have HF_ab := Lib.hid (Fr.new fs hmc)
    replace HB := Lib.hid (chain HB.out bb)
    replace HH := Lib.hid (HH.out.below bb)
    have HMab := Lib.hid hMab
    clear fs hmc b bb hMab a0 a1 a2 b0 b1 b2
    have ab0 := HF_ab.out.row.cell 0
    have ab1 := HF_ab.out.row.cell 1
    have ab2 := HF_ab.out.row.cell 2
    have c0 := HF_c.out.row.cell 0
    have c1 := HF_c.out.row.cell 1
    have c2 := HF_c.out.row.cell 2
    go_wp2_with fail
    refine (mergedT_calls k f HSZ.out _ _ _ (Nat.le_trans HO.out.1 HO.out.2.1) (HO.out.2.2.1) (HO.out.2.2.2) _ _ _ _ _ _ _ HF_ab.out.fs HF_c.out.fs (HT.out.below HB.out)).mono ?_
    rintro e v7 ⟨Bl, ml, cl, Ml, Bxl, cxl, rfl, fs, hmc, hMl, b⟩
    have bb := chain b (Fr.grow fs cl)
    replace HF_all := Lib.hid (HF_all.out.call bb)
    replace HF_a := Lib.hid (HF_a.out.call bb)
    replace HF_b := Lib.hid (HF_b.out.call bb)
    replace HF_c := Lib.hid (HF_c.out.call bb)
    replace HF_ab := Lib.hid (HF_ab.out.call bb)
    have HF_l := Lib.hid (Fr.new fs hmc)
    replace HB := Lib.hid (chain HB.out bb)
    replace HH := Lib.hid (HH.out.below bb)
    have HMl := Lib.hid hMl
    clear fs hmc b bb hMl ab0 ab1 ab2 c0 c1 c2
    clear HF_ab
    have b0 := HF_b.out.row.cell 0
    have b1 := HF_b.out.row.cell 1
    have b2 := HF_b.out.row.cell 2
    have c0 := HF_c.out.row.cell 0
    have c1 := HF_c.out.row.cell 1
    have c2 := HF_c.out.row.cell 2
    go_wp2_with fail
    refine (mergedT_calls k f HSZ.out _ _ _ (HO.out.2.1) (HO.out.2.2.1) (HO.out.2.2.2) _ _ _ _ _ _ _ HF_b.out.fs HF_c.out.fs (HT.out.below HB.out)).mono ?_
    rintro e v8 ⟨Bbc, mbc, cbc, Mbc, Bxbc, cxbc, rfl, fs, hmc, hMbc, b⟩
    have bb := chain b (Fr.grow fs cbc)
    replace HF_all := Lib.hid (HF_all.out.call bb)
    replace HF_a := Lib.hid (HF_a.out.call bb)
    replace HF_b := Lib.hid (HF_b.out.call bb)
    replace HF_c := Lib.hid (HF_c.out.call bb)
    replace HF_l := Lib.hid (HF_l.out.call bb)
    have HF_bc := Lib.hid (Fr.new fs hmc)
    replace HB := Lib.hid (chain HB.out bb)
    replace HH := Lib.hid (HH.out.below bb)
    have HMbc := Lib.hid hMbc
    clear fs hmc b bb hMbc b0 b1 b2 c0 c1 c2
    clear HF_b
    clear HF_c
    have a0 := HF_a.out.row.cell 0
    have a1 := HF_a.out.row.cell 1
    have a2 := HF_a.out.row.cell 2
    have bc0 := HF_bc.out.row.cell 0
    have bc1 := HF_bc.out.row.cell 1
    have bc2 := HF_bc.out.row.cell 2
    go_wp2_with fail
    refine (mergedT_calls k f HSZ.out _ _ _ (HO.out.1) (Nat.le_trans HO.out.2.1 HO.out.2.2.1) (HO.out.2.2.2) _ _ _ _ _ _ _ HF_a.out.fs HF_bc.out.fs (HT.out.below HB.out)).mono ?_
    rintro e v9 ⟨Br, mr, cr, Mr, Bxr, cxr, rfl, fs, hmc, hMr, b⟩
    have bb := chain b (Fr.grow fs cr)
    replace HF_all := Lib.hid (HF_all.out.call bb)
    replace HF_a := Lib.hid (HF_a.out.call bb)
    replace HF_l := Lib.hid (HF_l.out.call bb)
    replace HF_bc := Lib.hid (HF_bc.out.call bb)
    have HF_r := Lib.hid (Fr.new fs hmc)
    replace HB := Lib.hid (chain HB.out bb)
    replace HH := Lib.hid (HH.out.below bb)
    have HMr := Lib.hid hMr
    clear fs hmc b bb hMr a0 a1 a2 bc0 bc1 bc2
    clear HF_a
    clear HF_bc
    go_wp2_with fail
    refine (HCV.out _).mono ?_
    rintro e v10 ⟨vC, rfl, oC, b⟩
    replace HF_all := Lib.hid (HF_all.out.call b)
    replace HF_l := Lib.hid (HF_l.out.call b)
    replace HF_r := Lib.hid (HF_r.out.call b)
    replace HB := Lib.hid (chain HB.out b)
    replace HH := Lib.hid (HH.out.below b)
    obtain ⟨BC, dC, eC, _, _, _⟩ := OwnA.shape oC
    subst eC
    clear oC
    clear b 
    have HGL := Lib.hid (HLN.out _ _ _ HF_all.out.fs)
    have hm_l : ml = mall := HF_l.out.fs.len.symm.trans HF_all.out.fs.len
    subst ml
    have l0 := HF_l.out.row.cell 0
    have l1 := HF_l.out.row.cell 1
    have l2 := HF_l.out.row.cell 2
    have all0 := HF_all.out.row.cell 0
    have all1 := HF_all.out.row.cell 1
    have all2 := HF_all.out.row.cell 2
    go_wp2_with fail
    refine (HSM.out _ _ _ _ _ _ HF_l.out.fs HF_all.out.fs HGL.out.1).mono ?_
    rintro e v11 ⟨rfl, b⟩
    replace HF_all := Lib.hid (HF_all.out.call b)
    replace HF_l := Lib.hid (HF_l.out.call b)
    replace HF_r := Lib.hid (HF_r.out.call b)
    replace HB := Lib.hid (chain HB.out b)
    replace HH := Lib.hid (HH.out.below b)
    clear b l0 l1 l2 all0 all1 all2
    clear HF_l
    have hm_r : mr = mall := HF_r.out.fs.len.symm.trans HF_all.out.fs.len
    subst mr
    have r0 := HF_r.out.row.cell 0
    have r1 := HF_r.out.row.cell 1
    have r2 := HF_r.out.row.cell 2
    have all0 := HF_all.out.row.cell 0
    have all1 := HF_all.out.row.cell 1
    have all2 := HF_all.out.row.cell 2
    go_wp2_with fail
    refine (HSM.out _ _ _ _ _ _ HF_r.out.fs HF_all.out.fs HGL.out.1).mono ?_
    rintro e v12 ⟨rfl, b⟩
    replace HF_all := Lib.hid (HF_all.out.call b)
    replace HF_r := Lib.hid (HF_r.out.call b)
    replace HB := Lib.hid (chain HB.out b)
    replace HH := Lib.hid (HH.out.below b)
    clear b r0 r1 r2 all0 all1 all2
    clear HF_r
    rw [HGL.out.2]
    have all0 := HF_all.out.row.cell 0
    have all1 := HF_all.out.row.cell 1
    have all2 := HF_all.out.row.cell 2
    go_wp2_with fail
    refine (HCH.out _ _ _ _ HF_all.out.fs HGL.out.1).mono ?_
    rintro e v13 ⟨rfl, b⟩
    replace HF_all := Lib.hid (HF_all.out.call b)
    replace HB := Lib.hid (chain HB.out b)
    replace HH := Lib.hid (HH.out.below b)
    clear b all0 all1 all2
    clear hcut1 hcut2 hcut3 e1 e2 e3 hTn hv hl hn hnc hI hIJ hJ
    go_wp2_with fail
    go_ret
    exact ⟨by simp, HB.out⟩)
theorem compParts_walk (k : Int) (A : Option Addr) (n c : Nat) (ss : List ByteArray) (z i j : Int) (w : World) (_ : (Lit.int .i64 k).wf = true) (hC : Came w A n c ss) (_ : (Lit.int .i64 z).wf = true) (_ : (Lit.int .i64 i).wf = true) (_ : (Lit.int .i64 j).wf = true) (u1 : ∀ s ∈ ss, s.size ≤ 1048576) (u2 : ss.length ≤ 1048576)
    (h3 : ∀ i : Nat, i < 8 → w.cell? ⟨3, i, none⟩ = some (.int .u32 (Ints I0.list i))) (h4 : ∀ i : Nat, i < 64 → w.cell? ⟨4, i, none⟩ = some (.int .u32 (Ints K0 i))) :
    Calls Tryd.prog 7 #[.int .i64 k, .slice A n c, .int .i64 z, .int .i64 i, .int .i64 j] w fun e w' => e = .returned (.bool true) ∧ Below w.heap.size w w' :=
  compParts_in k A n c ss z i j w hC u1 u2 (tab_of h3 h4)
end Go.Proofs.YtahkpcbemnfllaaDoor.Comp
