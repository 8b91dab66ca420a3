/- CompWork: its walk. -/
import Derived.Test.YtahkpcbemnfllaaDoorParts2
set_option linter.unusedVariables false
set_option linter.unusedSimpArgs false
namespace Go.Proofs.YtahkpcbemnfllaaDoor.Comp
open Go.RowKit Go.Proofs.YtahkpcbemnfllaaDoor.Base Go.Proofs.YtahkpcbemnfllaaDoor.Mem Go.Proofs.YtahkpcbemnfllaaDoor.Strs Go.Proofs.YtahkpcbemnfllaaDoor.ShaDig Go.Proofs.YtahkpcbemnfllaaDoor.TreeHash Go.Proofs.YtahkpcbemnfllaaDoor.Cov
open Go.Proofs.YtahkpcbemnfllaaDoor.Lst (OwnA Adr OwnA.shape Kp own_below Lst ac ac_append ac_length infoAddr own_lt own_base own_shape own_kp)

theorem ones_calls (n : Nat) (hn : n ≤ 1048576) (w : World) (hT : Ones.Table w) (W : World) (hb : Below w.heap.size w W) : Calls Tryd.prog 32 #[.int .i64 (n : Int)] W fun e w' => e = .returned (.int .i64 (Ones.popc n : Int)) ∧ W = w' := by
  refine Ones.ones_nat n W (by omega) ⟨fun i hi => ?_⟩
  have h := hT i hi
  exact (hb.cell (World.block_lt_of_cell? w _ h)).trans h
set_option maxRecDepth 100000 in
set_option maxHeartbeats 40000000 in
theorem compWork_in (k : Int) (A : Option Addr) (L c : Nat) (ss : List ByteArray) (z : Int) (w : World) (hC : Came w A L c ss) (hu : ∀ s ∈ ss, s.size ≤ 1048576) (hv : ss.length ≤ 1048576) (hT : Tab w) (hO : Ones.Table w) :
    Calls Tryd.prog 8 #[.int .i64 k, .slice A L c, .int .i64 z] w fun e w' => e = .returned (.bool true) ∧ Below w.heap.size w w' := by
  obtain ⟨hS, hnc, hcc, hsz⟩ := hC
  have hl := hS.len
  have hn : L ≤ 1048576 := by omega
  have HLV := Lib.hid (leaves_calls k A L c ss w hS hn (fun s h => by have := hu s h; omega) hT)
  have HT := Lib.hid hT
  have HL := Lib.hid hl
  clear hS hsz hu hT hcc
  obtain ⟨f, hf⟩ : ∃ f, leafF k 0 ss = f := ⟨_, rfl⟩
  have HSZ : Hid (∀ p, (f p).size = wid k) := Lib.hid (fun p => by rw [← hf]; exact leafF_size k 0 ss p)
  obtain ⟨N, hN, hi⟩ : ∃ N : Nat, N ≤ L ∧ ((z < 0 ∧ N = L) ∨ (¬ z < 0 ∧ (L : Int) < z ∧ N = L) ∨ (¬ z < 0 ∧ ¬ (L : Int) < z ∧ z = (N : Int))) := by
    by_cases h1 : z < 0
    · exact ⟨L, Nat.le_refl _, .inl ⟨h1, rfl⟩⟩
    · by_cases h2 : (L : Int) < z
      · exact ⟨L, Nat.le_refl _, .inr (.inl ⟨h1, h2, rfl⟩)⟩
      · exact ⟨z.toNat, by omega, .inr (.inr ⟨h1, h2, by omega⟩)⟩
  obtain ⟨D, hD⟩ : ∃ D, L = N + D := ⟨L - N, by omega⟩
  have HD := Lib.hid hD
  have HO : Hid (N ≤ L ∧ L ≤ 4611686018427387904) := Lib.hid ⟨by omega, by omega⟩
  obtain ⟨pN, hpN⟩ : ∃ pN, Ones.popc N = pN := ⟨_, rfl⟩
  obtain ⟨pL, hpL⟩ : ∃ pL, Ones.popc L = pL := ⟨_, rfl⟩
  have h62 : ∀ m : Nat, m ≤ 1048576 → Ones.popc m ≤ 62 := fun m hm => Ones.popc_le 62 m (Nat.lt_of_le_of_lt hm (by decide))
  have HPP : Hid (pN ≤ 62 ∧ pL ≤ 62) := Lib.hid ⟨by rw [← hpN]; exact h62 N (by omega), by rw [← hpL]; exact h62 L hn⟩
  have HFIN : Hid (∀ Mf Mg Mh Ma : Nat, Mf + (greedy 0 N).length = N - 0 → Mg + (greedy N L).length = L - N → Mh + (greedy 0 L).length = (greedy 0 N).length + (greedy N L).length → Ma + (greedy 0 L).length = L - 0 →
      ∃ q : Nat, (N : Int) - (pN : Int) = (Mf : Int) ∧ (L : Int) - (pL : Int) = (Ma : Int) ∧ (Ma : Int) - (Mf : Int) = (q : Int) ∧ (Mg : Int) + (Mh : Int) = (q : Int) ∧ (q : Int) ≤ (D : Int) + 62 ∧ q ≤ 4000000 ∧ Ma ≤ 4000000 ∧ Mf ≤ 4000000 ∧ Mg ≤ 4000000 ∧ Mh ≤ 4000000) := Lib.hid (fun Mf Mg Mh Ma g1 g2 g3 g4 => by
    have p1 := (greedy_ones N (by omega)).trans hpN
    have p2 := (greedy_ones L (by omega)).trans hpL
    have p3 := HPP.out.1
    rw [p1] at g1 g3
    rw [p2] at g3 g4
    exact ⟨Mg + Mh, by omega, by omega, by omega, by omega, by omega, by omega, by omega, by omega, by omega, by omega⟩)
  have HN1 : Hid (∀ W, Below w.heap.size w W → Calls Tryd.prog 32 #[.int .i64 (L : Int)] W fun e w' => e = .returned (.int .i64 (pL : Int)) ∧ W = w') := Lib.hid (fun W hb => by rw [← hpL]; exact ones_calls L hn w hO W hb)
  have HN2 : Hid (∀ W, Below w.heap.size w W → Calls Tryd.prog 32 #[.int .i64 (N : Int)] W fun e w' => e = .returned (.int .i64 (pN : Int)) ∧ W = w') := Lib.hid (fun W hb => by rw [← hpN]; exact ones_calls N (by omega) w hO W hb)
  have e0 : (L : Int) - (N : Int) = (D : Int) := by omega
  have e1 : (N : Int) + (D : Int) = (L : Int) := by omega
  have HDD : Hid (L - N = D) := Lib.hid (by omega)
  have HPA0 : Hid (∀ A1 c1 W, L ≤ c1 → Below w.heap.size w W → Strs W A1 L (ss.map (leafH k)) → Calls Tryd.prog 29 #[.int .i64 k, .int .i64 0, .slice A1 N c1] W (PushedT k f 0 N W)) := Lib.hid (fun A1 c1 W hc hb hS =>
    pushedT_calls k f HSZ.out 0 N N (by omega) (by omega) A1 c1 _ W (hS.take N hN) (fun i hi => by
      rw [← hf]
      have := leafF_cut k 0 ss 0 N i (by omega) (by omega)
      rw [List.drop_zero, Nat.add_zero] at this
      exact this) (by omega) (HT.out.below hb))
  have HPB0 : Hid (∀ A1 c1 Q W, L ≤ c1 → c1 - N = Q → Below w.heap.size w W → Strs W A1 L (ss.map (leafH k)) → Calls Tryd.prog 29 #[.int .i64 k, .int .i64 (N : Int), .slice (cutA A1 N c1) D Q] W (PushedT k f N L W)) := Lib.hid (fun A1 c1 Q W hc hq hb hS => by
    rw [← HDD.out, ← hq]
    exact pushedT_calls k f HSZ.out N (L - N) L (by omega) (by omega) _ _ _ W (hS.cut_all N c1 hN hc) (fun i hi => by
      rw [← hf]
      have := leafF_cut k 0 ss N L i (by omega) (by omega)
      rw [List.take_of_length_le (by rw [List.length_map]; omega), Nat.zero_add] at this
      exact this) (by omega) (HT.out.below hb))
  have HPC0 : Hid (∀ A1 c1 W, L ≤ c1 → Below w.heap.size w W → Strs W A1 L (ss.map (leafH k)) → Calls Tryd.prog 29 #[.int .i64 k, .int .i64 0, .slice A1 L c1] W (PushedT k f 0 L W)) := Lib.hid (fun A1 c1 W hc hb hS =>
    pushedT_calls k f HSZ.out 0 L L (by omega) (by omega) A1 c1 _ W hS (fun i hi => by rw [← hf]; exact leafF_at k 0 ss i (by omega)) hn (HT.out.below hb))
  have HQX : Hid (∀ c1 : Nat, ∃ Q, c1 - N = Q) := Lib.hid (fun c1 => ⟨_, rfl⟩)
  have HCUT : Hid (∀ A1 c1 Q, L ≤ c1 → c1 - N = Q → (∀ W, (Instr.slice 22 (.slice A1 L c1) none (some (.int .i64 (N : Int))) none).run Tryd.prog W = .ok (.slice A1 N c1) W) ∧ (∀ W, (Instr.slice 22 (.slice A1 L c1) (some (.int .i64 (N : Int))) none none).run Tryd.prog W = .ok (.slice (cutA A1 N c1) D Q) W)) := Lib.hid (fun A1 c1 Q hc hq => ⟨fun W => run_cut_h W A1 L c1 N (by omega), fun W => by rw [← HDD.out, ← hq]; exact run_cut_l W A1 L c1 N hN⟩)
  have hs1 : N = L → pN = pL := fun h => by rw [← hpN, ← hpL, h]
  clear h62 hf hpN hpL hO hD hl hv HDD
  rcases hi with ⟨hi1, hIn⟩ | ⟨hi1, hi2, hIn⟩ | ⟨hi1, hi2, rfl⟩
  all_goals first | (have h9 := hs1 hIn; subst h9; subst hIn) | skip
  all_goals clear hs1
  all_goals first | have d1 := decide_eq_false hi1 | skip
  all_goals first | have d2 := decide_eq_false hi2 | skip
  all_goals go_enter Tryd.func8, Tryd.ntmps8
  all_goals (
    go_wp2_with fail
    refine HLV.out.mono ?_
    rintro e v0 ⟨vh, rfl, oh, b⟩
    obtain ⟨A1, c1, ev, hc1, hs1⟩ := oh.shape
    rw [List.length_map, HL.out] at ev hc1 hs1
    subst ev
    have HB := Lib.hid b
    have HH := Lib.hid hs1
    obtain ⟨Q, hQ⟩ := HQX.out c1
    obtain ⟨hcut1, hcut2⟩ := HCUT.out A1 c1 Q hc1 hQ
    have HPA := Lib.hid (fun W => HPA0.out A1 c1 W hc1)
    have HPB := Lib.hid (fun W => HPB0.out A1 c1 Q W hc1 hQ)
    have HPC := Lib.hid (fun W => HPC0.out A1 c1 W hc1)
    clear oh b hs1 hc1 hQ HPA0 HPB0 HPC0 HCUT
    go_wp2_with fail
    refine (HPA.out _ HB.out HH.out).mono ?_
    rintro e v1 ⟨Bf, mf, cf, Mf, Bxf, cxf, rfl, fs, hmc, hMf, b⟩
    have bb := chain b (Fr.grow fs cf)
    have HF_f := Lib.hid (Fr.new fs hmc)
    replace HB := Lib.hid (chain HB.out bb)
    replace HH := Lib.hid (HH.out.below bb)
    have HMf := Lib.hid hMf
    clear fs hmc b bb hMf 
    go_wp2_with fail
    refine (HPB.out _ HB.out HH.out).mono ?_
    rintro e v2 ⟨Bg, mg, cg, Mg, Bxg, cxg, rfl, fs, hmc, hMg, b⟩
    have bb := chain b (Fr.grow fs cg)
    replace HF_f := Lib.hid (HF_f.out.call bb)
    have HF_g := Lib.hid (Fr.new fs hmc)
    replace HB := Lib.hid (chain HB.out bb)
    replace HH := Lib.hid (HH.out.below bb)
    have HMg := Lib.hid hMg
    clear fs hmc b bb hMg 
    have f0 := HF_f.out.row.cell 0
    have f1 := HF_f.out.row.cell 1
    have f2 := HF_f.out.row.cell 2
    have g0 := HF_g.out.row.cell 0
    have g1 := HF_g.out.row.cell 1
    have g2 := HF_g.out.row.cell 2
    go_wp2_with fail
    refine (mergedT_calls k f HSZ.out _ _ _ (Nat.zero_le _) HO.out.1 HO.out.2 _ _ _ _ _ _ _ HF_f.out.fs HF_g.out.fs (HT.out.below HB.out)).mono ?_
    rintro e v3 ⟨Bh, mh, ch, Mh, Bxh, cxh, rfl, fs, hmc, hMh, b⟩
    have bb := chain b (Fr.grow fs ch)
    replace HF_f := Lib.hid (HF_f.out.call bb)
    replace HF_g := Lib.hid (HF_g.out.call bb)
    have HF_h := Lib.hid (Fr.new fs hmc)
    replace HB := Lib.hid (chain HB.out bb)
    replace HH := Lib.hid (HH.out.below bb)
    have HMh := Lib.hid hMh
    clear fs hmc b bb hMh f0 f1 f2 g0 g1 g2
    clear HF_f
    clear HF_g
    go_wp2_with fail
    refine (HPC.out _ HB.out HH.out).mono ?_
    rintro e v4 ⟨Ball, mall, call, Mall, Bxall, cxall, rfl, fs, hmc, hMall, b⟩
    have bb := chain b (Fr.grow fs call)
    replace HF_h := Lib.hid (HF_h.out.call bb)
    have HF_all := Lib.hid (Fr.new fs hmc)
    replace HB := Lib.hid (chain HB.out bb)
    replace HH := Lib.hid (HH.out.below bb)
    have HMall := Lib.hid hMall
    clear fs hmc b bb hMall 
    clear HF_h
    go_wp2_with fail
    refine (live_calls _).mono ?_
    rintro e v5 ⟨rfl, b⟩
    replace HF_all := Lib.hid (HF_all.out.call b)
    replace HB := Lib.hid (chain HB.out b)
    replace HH := Lib.hid (HH.out.below b)
    clear b 
    obtain ⟨q, f1, f2, f3, f4, f5, f6, f71, f72, f73, f74⟩ := HFIN.out _ _ _ _ HMf.out HMg.out HMh.out HMall.out
    obtain ⟨f81, f82⟩ := HPP.out
    have q0 := HF_all.out.row.cell 1
    clear hcut1 hcut2
    go_wp2_with (go_at_call 32; (first | (with_reducible refine (HN1.out _ HB.out).mono ?_) | (with_reducible refine (HN2.out _ HB.out).mono ?_)); rintro e w' ⟨rfl, rfl⟩)
    go_ret
    exact ⟨by first | (simp; done) | (simp; omega), HB.out⟩)
theorem compWork_walk (k : Int) (A : Option Addr) (n c : Nat) (ss : List ByteArray) (z : Int) (w : World) (_ : (Lit.int .i64 k).wf = true) (hC : Came w A n c ss) (_ : (Lit.int .i64 z).wf = true) (u1 : ∀ s ∈ ss, s.size ≤ 1048576) (u2 : ss.length ≤ 1048576)
    (h0 : ∀ i : Nat, i < 16 → w.cell? ⟨0, i, none⟩ = some (.int .i64 (Ones.halves.getD i 0))) (h3 : ∀ i : Nat, i < 8 → w.cell? ⟨3, i, none⟩ = some (.int .u32 (Ints I0.list i))) (h4 : ∀ i : Nat, i < 64 → w.cell? ⟨4, i, none⟩ = some (.int .u32 (Ints K0 i))) :
    Calls Tryd.prog 8 #[.int .i64 k, .slice A n c, .int .i64 z] w fun e w' => e = .returned (.bool true) ∧ Below w.heap.size w w' :=
  compWork_in k A n c ss z w hC u1 u2 (tab_of h3 h4) h0
end Go.Proofs.YtahkpcbemnfllaaDoor.Comp
