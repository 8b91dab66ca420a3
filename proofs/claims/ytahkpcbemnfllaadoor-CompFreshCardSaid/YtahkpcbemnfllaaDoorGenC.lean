/- CompFresh: its walk, over the contracts of what it calls, and whole. -/
import Derived.Test.YtahkpcbemnfllaaDoorGenA
import Derived.Test.YtahkpcbemnfllaaDoorGenB
set_option linter.unusedVariables false
set_option linter.unusedSimpArgs false
namespace Go.Proofs.YtahkpcbemnfllaaDoor.Gen
open Go.RowKit Go.Proofs.YtahkpcbemnfllaaDoor.Base Go.Proofs.YtahkpcbemnfllaaDoor.Mem Go.Proofs.YtahkpcbemnfllaaDoor.Comp
open Go.Proofs.YtahkpcbemnfllaaDoor.Strs (Strs)
open Go.Proofs.YtahkpcbemnfllaaDoor.Lst (Kp own_below own_lt own_base own_kp own_down)

set_option maxRecDepth 100000 in
set_option maxHeartbeats 8000000 in
theorem compFresh_core (k alo ahi : Int) (A : Option Addr) (n c : Nat) (blo bhi : Int) (B : Option Addr) (m d : Nat) (hash : ByteArray) (w : World) (Plo Phi Pz Qlo Qhi Qz : Int) (L1 R1 : List ByteArray) (L2 R2 : List Md)
    (hPM : ∀ W, Below w.heap.size w W → Calls Tryd.prog 19 #[.int .i64 k, fv alo ahi A n c, .string hash] W (Ans Plo Phi Pz L1 L2 W))
    (hPR : ∀ W, Below w.heap.size w W → Calls Tryd.prog 20 #[.int .i64 k, fv alo ahi A n c, .string hash] W (Ans Plo Phi Pz L1 L2 W))
    (hMM : ∀ W, Below w.heap.size w W → Calls Tryd.prog 23 #[.int .i64 k, fv alo ahi A n c, fv blo bhi B m d] W (Ans Qlo Qhi Qz R1 R2 W))
    (hMR : ∀ W, Below w.heap.size w W → Calls Tryd.prog 24 #[.int .i64 k, fv alo ahi A n c, fv blo bhi B m d] W (Ans Qlo Qhi Qz R1 R2 W))
    (hAK : ∀ W, Below w.heap.size w W → Calls Tryd.prog 26 #[.int .i64 k, fv alo ahi A n c, fv blo bhi B m d, .string hash] W (fun e w' => e = .returned (.bool true) ∧ Below W.heap.size W w'))
    (hl : L1.length ≤ 4000 ∧ L2.length ≤ 4000 ∧ R1.length ≤ 4000 ∧ R2.length ≤ 4000) :
    Calls Tryd.prog 6 #[.int .i64 k, fv alo ahi A n c, fv blo bhi B m d, .string hash] w (fun e w' => e = .returned (.bool true) ∧ Below w.heap.size w w') := by
  have hb0 : Below w.heap.size w ((w.alloc (.cells #[.int .i64 alo, .int .i64 ahi, .slice A n c] 24)).alloc (.cells #[.int .i64 blo, .int .i64 bhi, .slice B m d] 24)) := ((Below.refl _ w).alloc (Nat.le_refl _) _).alloc (by simp) _
  have r1 := (Row.new w #[.int .i64 alo, .int .i64 ahi, .slice A n c] 24).alloc (.cells #[.int .i64 blo, .int .i64 bhi, .slice B m d] 24)
  have r2 := Row.new (w.alloc (.cells #[.int .i64 alo, .int .i64 ahi, .slice A n c] 24)) #[.int .i64 blo, .int .i64 bhi, .slice B m d] 24
  rw [World.size_alloc] at r2
  have hg0 : GL w [] [(w.heap.size, #[.int .i64 alo, .int .i64 ahi, .slice A n c]), (w.heap.size + 1, #[.int .i64 blo, .int .i64 bhi, .slice B m d])] _ := GL.start hb0 (by
    intro p hp
    rcases List.mem_cons.1 hp with rfl | hp
    · exact r1
    · rw [List.mem_singleton.1 hp]; exact r2)
  have HG := Lib.hid hg0
  have HPM := Lib.hid hPM
  have HPR := Lib.hid hPR
  have HMM := Lib.hid hMM
  have HMR := Lib.hid hMR
  have HAK := Lib.hid hAK
  have HL := Lib.hid hl
  have HK := Lib.hid (hPM _ hb0)
  clear hg0 r1 r2 hb0 hPM hPR hMM hMR hAK hl
  go_enter Tryd.func6, Tryd.ntmps6
  go_wp2_with fail
  refine HK.out.mono ?_
  rintro e w1 hA
  obtain ⟨P1, N1, c1, P2, N2, c2, rfl, n1, n2, hg⟩ := HG.out.ans hA
  have HN1 := Lib.hid (And.intro n1 n2)
  have hg2 := hg.box #[.int .i64 Plo, .int .i64 Phi, .slice P1 N1 c1]
  clear hA hg HG HK n1 n2
  have HG := Lib.hid hg2
  have HK := Lib.hid (HMM.out _ hg2.g.bel)
  have ra := hg2.at (k := 0) rfl
  have a0 := ra.cell 0
  have a1 := ra.cell 1
  have a2 := ra.cell 2
  clear ra
  have rb := hg2.at (k := 1) rfl
  have b0 := rb.cell 0
  have b1 := rb.cell 1
  have b2 := rb.cell 2
  clear rb
  clear hg2
  go_wp2_with fail
  refine HK.out.mono ?_
  rintro e w2 hA
  obtain ⟨Q1, M1, d1, Q2, M2, d2, rfl, n1, n2, hg⟩ := HG.out.ans hA
  have HM1 := Lib.hid (And.intro n1 n2)
  have hg2 := hg.box #[.int .i64 Qlo, .int .i64 Qhi, .slice Q1 M1 d1]
  clear hA hg HG HK n1 n2 a0 a1 a2 b0 b1 b2
  have HG := Lib.hid hg2
  have HK := Lib.hid (HPR.out _ hg2.g.bel)
  have ra := hg2.at (k := 0) rfl
  have a0 := ra.cell 0
  have a1 := ra.cell 1
  have a2 := ra.cell 2
  clear ra
  have rb := hg2.at (k := 1) rfl
  have b0 := rb.cell 0
  have b1 := rb.cell 1
  have b2 := rb.cell 2
  clear rb
  clear hg2
  go_wp2_with fail
  refine HK.out.mono ?_
  rintro e w3 hA
  obtain ⟨X1, N3, c3, X2, N4, c4, rfl, n1, n2, hg⟩ := HG.out.ans hA
  obtain rfl : N3 = N1 := by rw [n1, HN1.out.1]
  obtain rfl : N4 = N2 := by rw [n2, HN1.out.2]
  have hg2 := hg.box #[.int .i64 Plo, .int .i64 Phi, .slice X1 N3 c3]
  clear hA hg HG HK n1 n2 a0 a1 a2 b0 b1 b2
  have HG := Lib.hid hg2
  have HK := Lib.hid (HMR.out _ hg2.g.bel)
  have ra := hg2.at (k := 0) rfl
  have a0 := ra.cell 0
  have a1 := ra.cell 1
  have a2 := ra.cell 2
  clear ra
  have rb := hg2.at (k := 1) rfl
  have b0 := rb.cell 0
  have b1 := rb.cell 1
  have b2 := rb.cell 2
  clear rb
  clear hg2
  go_wp2_with fail
  refine HK.out.mono ?_
  rintro e w4 hA
  obtain ⟨U1, M3, d3, U2, M4, d4, rfl, n1, n2, hg⟩ := HG.out.ans hA
  obtain rfl : M3 = M1 := by rw [n1, HM1.out.1]
  obtain rfl : M4 = M2 := by rw [n2, HM1.out.2]
  have hg2 := hg.box #[.int .i64 Qlo, .int .i64 Qhi, .slice U1 M3 d3]
  clear hA hg HG HK n1 n2 a0 a1 a2 b0 b1 b2
  have HG := Lib.hid hg2
  have HK := Lib.hid (same_calls Plo Phi P1 X1 N3 c1 c3 L1 _ (hg2.strs (k := 0) rfl) (hg2.strs (k := 4) rfl) (by rw [HN1.out.1]; have := HL.out.1; omega))
  have rp := hg2.at (k := 2) rfl
  have p0 := rp.cell 0
  have p1 := rp.cell 1
  have p2 := rp.cell 2
  clear rp
  have rx := hg2.at (k := 4) rfl
  have x0 := rx.cell 0
  have x1 := rx.cell 1
  have x2 := rx.cell 2
  clear rx
  clear hg2
  go_wp2_with fail
  refine HK.out.mono ?_
  rintro e w5 ⟨rfl, bb⟩
  have hg2 := HG.out.call bb
  clear HG HK bb p0 p1 p2 x0 x1 x2
  have HG := Lib.hid hg2
  have HK := Lib.hid (sameMade_calls P2 X2 N4 c2 c4 L2 _ (hg2.mds (k := 1) rfl) (hg2.mds (k := 5) rfl) (by rw [HN1.out.2]; have := HL.out.2.1; omega))
  have rq := hg2.at (k := 3) rfl
  have q0 := rq.cell 0
  have q1 := rq.cell 1
  have q2 := rq.cell 2
  clear rq
  have ru := hg2.at (k := 5) rfl
  have u0 := ru.cell 0
  have u1 := ru.cell 1
  have u2 := ru.cell 2
  clear ru
  clear hg2
  go_wp2_with fail
  refine HK.out.mono ?_
  rintro e _ ⟨rfl, kd, rfl⟩
  have hg2 := HG.out.call (drewN_below w5 kd)
  obtain ⟨w6, hw6⟩ : ∃ w6, w5.drewN kd = w6 := ⟨_, rfl⟩
  rw [hw6] at hg2 ⊢
  clear HG HK hw6 q0 q1 q2 u0 u1 u2
  have HG := Lib.hid hg2
  have HK := Lib.hid (same_calls Qlo Qhi Q1 U1 M3 d1 d3 R1 _ (hg2.strs (k := 2) rfl) (hg2.strs (k := 6) rfl) (by rw [HM1.out.1]; have := HL.out.2.2.1; omega))
  have rq := hg2.at (k := 3) rfl
  have q0 := rq.cell 0
  have q1 := rq.cell 1
  have q2 := rq.cell 2
  clear rq
  have ru := hg2.at (k := 5) rfl
  have u0 := ru.cell 0
  have u1 := ru.cell 1
  have u2 := ru.cell 2
  clear ru
  clear hg2
  go_wp2_with fail
  refine HK.out.mono ?_
  rintro e w7 ⟨rfl, bb⟩
  have hg2 := HG.out.call bb
  clear HG HK bb q0 q1 q2 u0 u1 u2
  have HG := Lib.hid hg2
  have HK := Lib.hid (sameMade_calls Q2 U2 M4 d2 d4 R2 _ (hg2.mds (k := 3) rfl) (hg2.mds (k := 7) rfl) (by rw [HM1.out.2]; have := HL.out.2.2.2; omega))
  clear hg2
  go_wp2_with fail
  refine HK.out.mono ?_
  rintro e _ ⟨rfl, kd, rfl⟩
  have hg2 := HG.out.call (drewN_below w7 kd)
  obtain ⟨w8, hw8⟩ : ∃ w8, w7.drewN kd = w8 := ⟨_, rfl⟩
  rw [hw8] at hg2 ⊢
  have hg3 := (((hg2.weakH (k := 0) rfl HN1.out.1 ⟨#[111, 110, 101]⟩).weakM (k := 1) rfl HN1.out.2 ⟨#[111, 110, 101]⟩).weakH (k := 2) rfl HM1.out.1 ⟨#[116, 119, 111]⟩).weakM (k := 3) rfl HM1.out.2 ⟨#[116, 119, 111]⟩
  have hg4 : GL w [txE (.slice P1 N3 c1) N3 ⟨#[111, 110, 101]⟩ 0, ndE (.slice P2 N4 c2) N4 ⟨#[111, 110, 101]⟩ 0, txE (.slice Q1 M3 d1) M3 ⟨#[116, 119, 111]⟩ 0, ndE (.slice Q2 M4 d2) M4 ⟨#[116, 119, 111]⟩ 0, isE (.slice X1 N3 c3) L1, imE (.slice X2 N4 c4) L2, isE (.slice U1 M3 d3) R1, imE (.slice U2 M4 d4) R2] [(w.heap.size, #[.int .i64 alo, .int .i64 ahi, .slice A n c]), (w.heap.size + 1, #[.int .i64 blo, .int .i64 bhi, .slice B m d]), (w1.heap.size, #[.int .i64 Plo, .int .i64 Phi, .slice P1 N3 c1]), (w2.heap.size, #[.int .i64 Qlo, .int .i64 Qhi, .slice Q1 M3 d1]), (w3.heap.size, #[.int .i64 Plo, .int .i64 Phi, .slice X1 N3 c3]), (w4.heap.size, #[.int .i64 Qlo, .int .i64 Qhi, .slice U1 M3 d3])] w8 := hg3
  have HW := Lib.hid hg4
  clear HG HK hw8 hg2 hg3 hg4
  have hN3 : N3 ≤ 4000 := by rw [HN1.out.1]; exact HL.out.1
  have hN4 : N4 ≤ 4000 := by rw [HN1.out.2]; exact HL.out.2.1
  have hM3 : M3 ≤ 4000 := by rw [HM1.out.1]; exact HL.out.2.2.1
  have hM4 : M4 ≤ 4000 := by rw [HM1.out.2]; exact HL.out.2.2.2
  go_wp2
  go_loopw [23] (fun s23 wr => ∃ j : Nat, s23 = .int .i64 (j : Int) ∧ j ≤ N3 ∧ Hid (GL w [txE (.slice P1 N3 c1) N3 ⟨#[111, 110, 101]⟩ j, ndE (.slice P2 N4 c2) N4 ⟨#[111, 110, 101]⟩ 0, txE (.slice Q1 M3 d1) M3 ⟨#[116, 119, 111]⟩ 0, ndE (.slice Q2 M4 d2) M4 ⟨#[116, 119, 111]⟩ 0, isE (.slice X1 N3 c3) L1, imE (.slice X2 N4 c4) L2, isE (.slice U1 M3 d3) R1, imE (.slice U2 M4 d4) R2] [(w.heap.size, #[.int .i64 alo, .int .i64 ahi, .slice A n c]), (w.heap.size + 1, #[.int .i64 blo, .int .i64 bhi, .slice B m d]), (w1.heap.size, #[.int .i64 Plo, .int .i64 Phi, .slice P1 N3 c1]), (w2.heap.size, #[.int .i64 Qlo, .int .i64 Qhi, .slice Q1 M3 d1]), (w3.heap.size, #[.int .i64 Plo, .int .i64 Phi, .slice X1 N3 c3]), (w4.heap.size, #[.int .i64 Qlo, .int .i64 Qhi, .slice U1 M3 d3])] wr)) (fun s23 _ => N3 - (intOf s23).toNat)
  case atStart => exact ⟨0, rfl, by omega, HW⟩
  case round =>
    clear HW
    obtain ⟨j, rfl, hj, hr⟩ := hrel
    have ck := (hr.out.at (k := 2) rfl).cell 2
    by_cases hlj : j < N3
    · obtain ⟨g, rfl, ⟨u, cu⟩, fr, h2⟩ := hr.out.fillH (k := 0) rfl hlj
      have HN2 := Lib.hid h2
      have hXj : (⟨g, 0, none⟩ : Addr).add j = ⟨g, j, none⟩ := Arr.add_plain g j 0 |>.trans (by rw [Nat.zero_add])
      have j0 : (0 : Int) ≤ (j : Int) := by omega
      have j1 : (j : Int) < (N3 : Int) := by omega
      clear hr h2
      go_wp2
      go_roundw
      case rel => exact ⟨j + 1, by go_num, by omega, HN2⟩
      case measure => simp only [intOf]; omega
    · obtain rfl : N3 = j := by omega
      have HW := Lib.hid hr.out
      clear hr

      go_wp2
      go_loopw [24] (fun s24 wr => ∃ j : Nat, s24 = .int .i64 (j : Int) ∧ j ≤ N4 ∧ Hid (GL w [txE (.slice P1 N3 c1) N3 ⟨#[111, 110, 101]⟩ N3, ndE (.slice P2 N4 c2) N4 ⟨#[111, 110, 101]⟩ j, txE (.slice Q1 M3 d1) M3 ⟨#[116, 119, 111]⟩ 0, ndE (.slice Q2 M4 d2) M4 ⟨#[116, 119, 111]⟩ 0, isE (.slice X1 N3 c3) L1, imE (.slice X2 N4 c4) L2, isE (.slice U1 M3 d3) R1, imE (.slice U2 M4 d4) R2] [(w.heap.size, #[.int .i64 alo, .int .i64 ahi, .slice A n c]), (w.heap.size + 1, #[.int .i64 blo, .int .i64 bhi, .slice B m d]), (w1.heap.size, #[.int .i64 Plo, .int .i64 Phi, .slice P1 N3 c1]), (w2.heap.size, #[.int .i64 Qlo, .int .i64 Qhi, .slice Q1 M3 d1]), (w3.heap.size, #[.int .i64 Plo, .int .i64 Phi, .slice X1 N3 c3]), (w4.heap.size, #[.int .i64 Qlo, .int .i64 Qhi, .slice U1 M3 d3])] wr)) (fun s24 _ => N4 - (intOf s24).toNat)
      case atStart => exact ⟨0, rfl, by omega, HW⟩
      case round =>
        clear HW
        obtain ⟨j, rfl, hj, hr⟩ := hrel
        by_cases hlj : j < N4
        · obtain ⟨g, rfl, ⟨⟨u0, cu0⟩, ⟨u1, cu1⟩, ⟨u2, cu2⟩⟩, frs, h2⟩ := hr.out.fillM (k := 1) rfl hlj
          have HN2 := Lib.hid h2
          have fr0 := frs (j * 3)
          have fr1 := frs (j * 3 + 1)
          have fr2 := frs (j * 3 + 2)
          have hXj : (⟨g, 0, none⟩ : Addr).add (j * 3) = ⟨g, j * 3, none⟩ := Arr.add_plain g (j * 3) 0 |>.trans (by rw [Nat.zero_add])
          have j0 : (0 : Int) ≤ (j : Int) := by omega
          have j1 : (j : Int) < (N4 : Int) := by omega
          clear hr h2 frs
          go_wp2
          go_roundw
          case rel => exact ⟨j + 1, by go_num, by omega, HN2⟩
          case measure => simp only [intOf]; omega
        · obtain rfl : N4 = j := by omega
          have HW := Lib.hid hr.out
          clear hr

          go_wp2
          go_loopw [25] (fun s25 wr => ∃ j : Nat, s25 = .int .i64 (j : Int) ∧ j ≤ M3 ∧ Hid (GL w [txE (.slice P1 N3 c1) N3 ⟨#[111, 110, 101]⟩ N3, ndE (.slice P2 N4 c2) N4 ⟨#[111, 110, 101]⟩ N4, txE (.slice Q1 M3 d1) M3 ⟨#[116, 119, 111]⟩ j, ndE (.slice Q2 M4 d2) M4 ⟨#[116, 119, 111]⟩ 0, isE (.slice X1 N3 c3) L1, imE (.slice X2 N4 c4) L2, isE (.slice U1 M3 d3) R1, imE (.slice U2 M4 d4) R2] [(w.heap.size, #[.int .i64 alo, .int .i64 ahi, .slice A n c]), (w.heap.size + 1, #[.int .i64 blo, .int .i64 bhi, .slice B m d]), (w1.heap.size, #[.int .i64 Plo, .int .i64 Phi, .slice P1 N3 c1]), (w2.heap.size, #[.int .i64 Qlo, .int .i64 Qhi, .slice Q1 M3 d1]), (w3.heap.size, #[.int .i64 Plo, .int .i64 Phi, .slice X1 N3 c3]), (w4.heap.size, #[.int .i64 Qlo, .int .i64 Qhi, .slice U1 M3 d3])] wr)) (fun s25 _ => M3 - (intOf s25).toNat)
          case atStart => exact ⟨0, rfl, by omega, HW⟩
          case round =>
            clear HW
            obtain ⟨j, rfl, hj, hr⟩ := hrel
            have ck := (hr.out.at (k := 3) rfl).cell 2
            by_cases hlj : j < M3
            · obtain ⟨g, rfl, ⟨u, cu⟩, fr, h2⟩ := hr.out.fillH (k := 2) rfl hlj
              have HN2 := Lib.hid h2
              have hXj : (⟨g, 0, none⟩ : Addr).add j = ⟨g, j, none⟩ := Arr.add_plain g j 0 |>.trans (by rw [Nat.zero_add])
              have j0 : (0 : Int) ≤ (j : Int) := by omega
              have j1 : (j : Int) < (M3 : Int) := by omega
              clear hr h2
              go_wp2
              go_roundw
              case rel => exact ⟨j + 1, by go_num, by omega, HN2⟩
              case measure => simp only [intOf]; omega
            · obtain rfl : M3 = j := by omega
              have HW := Lib.hid hr.out
              clear hr

              go_wp2
              go_loopw [26] (fun s26 wr => ∃ j : Nat, s26 = .int .i64 (j : Int) ∧ j ≤ M4 ∧ Hid (GL w [txE (.slice P1 N3 c1) N3 ⟨#[111, 110, 101]⟩ N3, ndE (.slice P2 N4 c2) N4 ⟨#[111, 110, 101]⟩ N4, txE (.slice Q1 M3 d1) M3 ⟨#[116, 119, 111]⟩ M3, ndE (.slice Q2 M4 d2) M4 ⟨#[116, 119, 111]⟩ j, isE (.slice X1 N3 c3) L1, imE (.slice X2 N4 c4) L2, isE (.slice U1 M3 d3) R1, imE (.slice U2 M4 d4) R2] [(w.heap.size, #[.int .i64 alo, .int .i64 ahi, .slice A n c]), (w.heap.size + 1, #[.int .i64 blo, .int .i64 bhi, .slice B m d]), (w1.heap.size, #[.int .i64 Plo, .int .i64 Phi, .slice P1 N3 c1]), (w2.heap.size, #[.int .i64 Qlo, .int .i64 Qhi, .slice Q1 M3 d1]), (w3.heap.size, #[.int .i64 Plo, .int .i64 Phi, .slice X1 N3 c3]), (w4.heap.size, #[.int .i64 Qlo, .int .i64 Qhi, .slice U1 M3 d3])] wr)) (fun s26 _ => M4 - (intOf s26).toNat)
              case atStart => exact ⟨0, rfl, by omega, HW⟩
              case round =>
                clear HW
                obtain ⟨j, rfl, hj, hr⟩ := hrel
                by_cases hlj : j < M4
                · obtain ⟨g, rfl, ⟨⟨u0, cu0⟩, ⟨u1, cu1⟩, ⟨u2, cu2⟩⟩, frs, h2⟩ := hr.out.fillM (k := 3) rfl hlj
                  have HN2 := Lib.hid h2
                  have fr0 := frs (j * 3)
                  have fr1 := frs (j * 3 + 1)
                  have fr2 := frs (j * 3 + 2)
                  have hXj : (⟨g, 0, none⟩ : Addr).add (j * 3) = ⟨g, j * 3, none⟩ := Arr.add_plain g (j * 3) 0 |>.trans (by rw [Nat.zero_add])
                  have j0 : (0 : Int) ≤ (j : Int) := by omega
                  have j1 : (j : Int) < (M4 : Int) := by omega
                  clear hr h2 frs
                  go_wp2
                  go_roundw
                  case rel => exact ⟨j + 1, by go_num, by omega, HN2⟩
                  case measure => simp only [intOf]; omega
                · obtain rfl : M4 = j := by omega
                  have HW := Lib.hid hr.out
                  clear hr

                  have HLN : Hid (N3 + 3 ≤ 1000000 ∧ M3 + 3 ≤ 1000000 ∧ N4 + 2 ≤ 1000000 ∧ M4 + 2 ≤ 1000000) := Lib.hid (by
                    have h1 := HN1.out
                    have h2 := HM1.out
                    have h3 := HL.out
                    omega)
                  have ck := (HW.out.at (k := 2) rfl).cell 2
                  have HST := Lib.hid (fun ty => ((HW.out.call ((Below.refl _ wr).alloc (Nat.le_refl _) (.cells #[.string ⟨#[111, 110, 101]⟩, .string ⟨#[111, 110, 101]⟩, .string ⟨#[111, 110, 101]⟩] 9))).growH (k := 0) (ys := [.string ⟨#[111, 110, 101]⟩, .string ⟨#[111, 110, 101]⟩, .string ⟨#[111, 110, 101]⟩]) (m := 3) rfl wr.heap.size (heap_alloc_new _ _) rfl (by simp [Value.oneCell']) (by omega) (fun i hi => by rcases i with _ | _ | _ | i <;> first | rfl | omega) (HLN.out.1) ty))
                  clear HW
                  go_wp2_with (first
                    | (at_builtin; refine wpList_appG rfl (.tmp 139) (.tmp 140) 22 rfl _ _ rfl rfl _ (HST.out _) ?_; intro v' w10 h1; obtain ⟨T1, t1, rfl, f0, f8, h1, k0⟩ := h1; have HK0 := Lib.hid k0; have ck := (h1.at (k := 3) rfl).cell 2; have HST2 := Lib.hid (fun ty => ((h1.call ((Below.refl _ w10).alloc (Nat.le_refl _) (.cells #[.string ⟨#[116, 119, 111]⟩, .string ⟨#[116, 119, 111]⟩, .string ⟨#[116, 119, 111]⟩] 9))).growH (k := 2) (ys := [.string ⟨#[116, 119, 111]⟩, .string ⟨#[116, 119, 111]⟩, .string ⟨#[116, 119, 111]⟩]) (m := 3) rfl w10.heap.size (heap_alloc_new _ _) rfl (by simp [Value.oneCell']) (by omega) (fun i hi => by rcases i with _ | _ | _ | i <;> first | rfl | omega) (HLN.out.2.1) ty)); clear h1 HST k0)
                    | (at_builtin; refine wpList_appG rfl (.tmp 143) (.tmp 144) 22 rfl _ _ rfl rfl _ (HST2.out _) ?_; intro v' w11 h1; obtain ⟨T2, t2, rfl, f2, f9, h1, k2⟩ := h1; have HK2 := Lib.hid k2; have HST3 := Lib.hid (fun ty => ((h1.call ((Below.refl _ w11).alloc (Nat.le_refl _) (.cells #[.int .i64 0, .int .i64 0, .string ⟨#[111, 110, 101]⟩, .int .i64 0, .int .i64 0, .string ⟨#[111, 110, 101]⟩] 54))).growM (k := 1) (ys := [.int .i64 0, .int .i64 0, .string ⟨#[111, 110, 101]⟩, .int .i64 0, .int .i64 0, .string ⟨#[111, 110, 101]⟩]) (m := 2) rfl w11.heap.size (heap_alloc_new _ _) rfl (by simp [Value.oneCell']) (by omega) (fun i hi => by rcases i with _ | _ | i <;> first | rfl | omega) (HLN.out.2.2.1) ty)); clear h1 HST2 k2 ck)
                    | (at_builtin; refine wpList_appG rfl (.tmp 146) (.tmp 149) 40 rfl _ _ rfl rfl _ (HST3.out _) ?_; intro v' w12 h1; obtain ⟨T3, t3, rfl, f1, f10, h1, k1⟩ := h1; have HK1 := Lib.hid k1; have HST4 := Lib.hid (fun ty => ((h1.call ((Below.refl _ w12).alloc (Nat.le_refl _) (.cells #[.int .i64 0, .int .i64 0, .string ⟨#[116, 119, 111]⟩, .int .i64 0, .int .i64 0, .string ⟨#[116, 119, 111]⟩] 54))).growM (k := 3) (ys := [.int .i64 0, .int .i64 0, .string ⟨#[116, 119, 111]⟩, .int .i64 0, .int .i64 0, .string ⟨#[116, 119, 111]⟩]) (m := 2) rfl w12.heap.size (heap_alloc_new _ _) rfl (by simp [Value.oneCell']) (by omega) (fun i hi => by rcases i with _ | _ | i <;> first | rfl | omega) (HLN.out.2.2.2) ty)); clear h1 HST3 k1)
                    | (at_builtin; refine wpList_appG rfl (.tmp 151) (.tmp 154) 40 rfl _ _ rfl rfl _ (HST4.out _) ?_; intro v' w13 h1; obtain ⟨T4, t4, rfl, f3, f11, h1, k3⟩ := h1; have HK3 := Lib.hid k3; have HG : Hid (GL w [f0, f1, f2, f3, isE (.slice X1 N3 c3) L1, imE (.slice X2 N4 c4) L2, isE (.slice U1 M3 d3) R1, imE (.slice U2 M4 d4) R2, f8, f9, f10, f11] [(w.heap.size, #[.int .i64 alo, .int .i64 ahi, .slice A n c]), (w.heap.size + 1, #[.int .i64 blo, .int .i64 bhi, .slice B m d]), (w1.heap.size, #[.int .i64 Plo, .int .i64 Phi, .slice P1 N3 c1]), (w2.heap.size, #[.int .i64 Qlo, .int .i64 Qhi, .slice Q1 M3 d1]), (w3.heap.size, #[.int .i64 Plo, .int .i64 Phi, .slice X1 N3 c3]), (w4.heap.size, #[.int .i64 Qlo, .int .i64 Qhi, .slice U1 M3 d3])] w13) := Lib.hid h1; have HK := Lib.hid (HPM.out _ HG.out.g.bel); have ra := h1.at (k := 0) rfl; have a0 := ra.cell 0; have a1 := ra.cell 1; have a2 := ra.cell 2; clear ra; have rb := h1.at (k := 1) rfl; have b0 := rb.cell 0; have b1 := rb.cell 1; have b2 := rb.cell 2; clear rb; clear h1 HST4 k3))
                  refine HK.out.mono ?_
                  rintro e w14 hA
                  obtain ⟨C1, N5, c5, C2, N6, c6, rfl, s1, m1, n1, n2, bb⟩ := Ans.shape hA
                  obtain rfl : N5 = N3 := by rw [n1, HN1.out.1]
                  obtain rfl : N6 = N4 := by rw [n2, HN1.out.2]
                  have hg2 := (HG.out.call bb).box #[.int .i64 Plo, .int .i64 Phi, .slice C1 N5 c5]
                  have bA := (Below.refl _ w14).alloc (Nat.le_refl _) (.cells #[.int .i64 Plo, .int .i64 Phi, .slice C1 N5 c5] 24)
                  have HS1 := Lib.hid (s1.below bA)
                  have HMD1 := Lib.hid (m1.below bA)
                  clear hA HG HK n1 n2 bb bA s1 m1 a0 a1 a2 b0 b1 b2
                  have HG := Lib.hid hg2
                  have HK := Lib.hid (HMM.out _ hg2.g.bel)
                  have ra := hg2.at (k := 0) rfl
                  have a0 := ra.cell 0
                  have a1 := ra.cell 1
                  have a2 := ra.cell 2
                  clear ra
                  have rb := hg2.at (k := 1) rfl
                  have b0 := rb.cell 0
                  have b1 := rb.cell 1
                  have b2 := rb.cell 2
                  clear rb
                  clear hg2
                  go_wp2_with fail
                  refine HK.out.mono ?_
                  rintro e w15 hA
                  obtain ⟨E1, M5, d5, E2, M6, d6, rfl, s1, m1, n1, n2, bb⟩ := Ans.shape hA
                  obtain rfl : M5 = M3 := by rw [n1, HM1.out.1]
                  obtain rfl : M6 = M4 := by rw [n2, HM1.out.2]
                  have hg2 := (HG.out.call bb).box #[.int .i64 Qlo, .int .i64 Qhi, .slice E1 M5 d5]
                  have bA := (Below.refl _ w15).alloc (Nat.le_refl _) (.cells #[.int .i64 Qlo, .int .i64 Qhi, .slice E1 M5 d5] 24)
                  have HS2 := Lib.hid (s1.below bA)
                  have HMD2 := Lib.hid (m1.below bA)
                  have HS1' := Lib.hid ((HS1.out.below bb).below bA)
                  have HMD1' := Lib.hid ((HMD1.out.below bb).below bA)
                  clear hA HG HK n1 n2 bb bA s1 m1 HS1 HMD1 a0 a1 a2 b0 b1 b2
                  have HG := Lib.hid hg2
                  have HK := Lib.hid (same_calls Plo Phi C1 X1 N5 c5 c3 L1 _ HS1'.out (hg2.strs (k := 4) rfl) (by rw [HN1.out.1]; have := HL.out.1; omega))
                  have rx := hg2.at (k := 4) rfl
                  have x0 := rx.cell 0
                  have x1 := rx.cell 1
                  have x2 := rx.cell 2
                  clear rx
                  have ry := hg2.at (k := 6) rfl
                  have y0 := ry.cell 0
                  have y1 := ry.cell 1
                  have y2 := ry.cell 2
                  clear ry
                  clear hg2
                  go_wp2_with fail
                  refine HK.out.mono ?_
                  rintro e w16 ⟨rfl, bb⟩
                  have hg2 := HG.out.call bb
                  have HMD1 := Lib.hid (HMD1'.out.below bb)
                  have HS3 := Lib.hid (HS2.out.below bb)
                  have HMD3 := Lib.hid (HMD2.out.below bb)
                  clear HG HK bb HS1' HMD1' HS2 HMD2 x0 x1 x2 y0 y1 y2
                  have HG := Lib.hid hg2
                  have HK := Lib.hid (sameMade_calls C2 X2 N6 c6 c4 L2 _ HMD1.out (hg2.mds (k := 5) rfl) (by rw [HN1.out.2]; have := HL.out.2.1; omega))
                  clear hg2
                  go_wp2_with fail
                  refine HK.out.mono ?_
                  rintro e _ ⟨rfl, kd, rfl⟩
                  have hg2 := HG.out.call (drewN_below w16 kd)
                  have hs3 := HS3.out.below (drewN_below w16 kd)
                  have hm3 := HMD3.out.below (drewN_below w16 kd)
                  obtain ⟨w17, hw⟩ : ∃ w17, w16.drewN kd = w17 := ⟨_, rfl⟩
                  rw [hw] at hg2 hs3 hm3 ⊢
                  clear HG HK hw HS3 HMD3 HMD1
                  have HG := Lib.hid hg2
                  have HM3 := Lib.hid hm3
                  have HK := Lib.hid (same_calls Qlo Qhi E1 U1 M5 d5 d3 R1 _ hs3 (hg2.strs (k := 6) rfl) (by rw [HM1.out.1]; have := HL.out.2.2.1; omega))
                  have rx := hg2.at (k := 5) rfl
                  have x0 := rx.cell 0
                  have x1 := rx.cell 1
                  have x2 := rx.cell 2
                  clear rx
                  have ry := hg2.at (k := 7) rfl
                  have y0 := ry.cell 0
                  have y1 := ry.cell 1
                  have y2 := ry.cell 2
                  clear ry
                  clear hg2 hs3 hm3
                  go_wp2_with fail
                  refine HK.out.mono ?_
                  rintro e w18 ⟨rfl, bb⟩
                  have hg2 := HG.out.call bb
                  clear HG HK x0 x1 x2 y0 y1 y2
                  have HG := Lib.hid hg2
                  have HK := Lib.hid (sameMade_calls E2 U2 M6 d6 d4 R2 _ (HM3.out.below bb) (hg2.mds (k := 7) rfl) (by rw [HM1.out.2]; have := HL.out.2.2.2; omega))
                  clear hg2 HM3 bb
                  go_wp2_with fail
                  refine HK.out.mono ?_
                  rintro e _ ⟨rfl, kd, rfl⟩
                  have hg2 := HG.out.call (drewN_below w18 kd)
                  obtain ⟨w19, hw⟩ : ∃ w19, w18.drewN kd = w19 := ⟨_, rfl⟩
                  rw [hw] at hg2 ⊢
                  clear HG HK hw
                  obtain ⟨g1, g2⟩ := HK0.out _ _ (hg2.ok (k := 0) rfl) (hg2.ok (k := 8) rfl)
                  obtain ⟨g3, g4⟩ := HK1.out _ _ (hg2.ok (k := 1) rfl) (hg2.ok (k := 10) rfl)
                  obtain ⟨g5, g6⟩ := HK2.out _ _ (hg2.ok (k := 2) rfl) (hg2.ok (k := 9) rfl)
                  obtain ⟨g7, g8⟩ := HK3.out _ _ (hg2.ok (k := 3) rfl) (hg2.ok (k := 11) rfl)
                  have HR1 := Lib.hid (marked_calls P1 P2 N5 c1 N6 c2 ⟨#[111, 110, 101]⟩ w19 (v1_get g1) (v3_get g3) (by have := HLN.out; omega) (by have := HLN.out; omega))
                  have HR2 := Lib.hid (marked_calls T1 T3 (N5 + 3) t1 (N6 + 2) t3 ⟨#[111, 110, 101]⟩ w19 (v1_get g2) (v3_get g4) (by have := HLN.out; omega) (by have := HLN.out; omega))
                  have HR3 := Lib.hid (marked_calls Q1 Q2 M5 d1 M6 d2 ⟨#[116, 119, 111]⟩ w19 (v1_get g5) (v3_get g7) (by have := HLN.out; omega) (by have := HLN.out; omega))
                  have HR4 := Lib.hid (marked_calls T2 T4 (M5 + 3) t2 (M6 + 2) t4 ⟨#[116, 119, 111]⟩ w19 (v1_get g6) (v3_get g8) (by have := HLN.out; omega) (by have := HLN.out; omega))
                  have HB19 := Lib.hid hg2.g.bel
                  have HK := Lib.hid (HAK.out _ hg2.g.bel)
                  have ra := hg2.at (k := 0) rfl
                  have a0 := ra.cell 0
                  have a1 := ra.cell 1
                  have a2 := ra.cell 2
                  clear ra
                  have rb := hg2.at (k := 1) rfl
                  have b0 := rb.cell 0
                  have b1 := rb.cell 1
                  have b2 := rb.cell 2
                  clear rb
                  have pc := (hg2.at (k := 2) rfl).cell 2
                  have qc := (hg2.at (k := 3) rfl).cell 2
                  clear hg2 g1 g2 g3 g4 g5 g6 g7 g8 HK0 HK1 HK2 HK3
                  go_wp2_with fail
                  refine HR1.out.mono ?_
                  rintro e _ ⟨rfl, rfl⟩
                  go_wp2_with fail
                  refine HR2.out.mono ?_
                  rintro e _ ⟨rfl, rfl⟩
                  go_wp2_with fail
                  refine HR3.out.mono ?_
                  rintro e _ ⟨rfl, rfl⟩
                  go_wp2_with fail
                  refine HR4.out.mono ?_
                  rintro e _ ⟨rfl, rfl⟩
                  go_wp2_with fail
                  refine HK.out.mono ?_
                  rintro e w20 ⟨rfl, bb⟩
                  have HE := Lib.hid (HB19.out.trans (bb.mono HB19.out.size))
                  clear bb
                  go_wp2
                  go_ret
                  exact ⟨rfl, HE.out⟩
end Go.Proofs.YtahkpcbemnfllaaDoor.Gen
namespace Go.Proofs.YtahkpcbemnfllaaDoor.Gen
open Go.RowKit Go.Proofs.YtahkpcbemnfllaaDoor.Base Go.Proofs.YtahkpcbemnfllaaDoor.Mem Go.Proofs.YtahkpcbemnfllaaDoor.Comp Go.Proofs.YtahkpcbemnfllaaDoor.ShaDig
open Go.Proofs.YtahkpcbemnfllaaDoor.Strs (Strs Came)

theorem compFresh_walk (k alo ahi : Int) (A : Option Addr) (n c : Nat) (aa : List ByteArray) (blo bhi : Int) (B : Option Addr) (m d : Nat) (bb : List ByteArray) (hash : ByteArray) (w : World) (_ : (Lit.int .i64 k).wf = true) (_ : (Lit.int .i64 alo).wf = true) (_ : (Lit.int .i64 ahi).wf = true) (hC1 : Came w A n c aa) (_ : (Lit.int .i64 blo).wf = true) (_ : (Lit.int .i64 bhi).wf = true) (hC2 : Came w B m d bb) (_ : hash.size ≤ 140737488351232)
    (h1 : ∀ i : Nat, i < 8 → w.cell? ⟨1, i, none⟩ = some (.int .u32 (Ints I0.list i))) (h2 : ∀ i : Nat, i < 64 → w.cell? ⟨2, i, none⟩ = some (.int .u32 (Ints K0 i)))
    (h3 : ∀ i : Nat, i < 8 → w.cell? ⟨3, i, none⟩ = some (.int .u32 (Ints I0.list i))) (h4 : ∀ i : Nat, i < 64 → w.cell? ⟨4, i, none⟩ = some (.int .u32 (Ints K0 i))) :
    Calls Tryd.prog 6 #[.int .i64 k, fv alo ahi A n c, fv blo bhi B m d, .string hash] w fun e w' => e = .returned (.bool true) ∧ Below w.heap.size w w' := by
  have hT := tab_of h3 h4
  have hR := rtab_of h1 h2
  obtain ⟨hS1, hnc1, hcc1, hsz1⟩ := hC1
  obtain ⟨hS2, hnc2, hcc2, hsz2⟩ := hC2
  have hn : n ≤ 8796093022208 := by omega
  have hm : m ≤ 8796093022208 := by omega
  have l1 := pushN_len k alo ahi aa hash
  have l2 := mergeN_len k alo ahi aa blo bhi bb
  exact compFresh_core k alo ahi A n c blo bhi B m d hash w _ _ _ _ _ _ _ _ _ _
    (fun W hW => mpush_calls k alo ahi A n c aa hash W (hS1.below hW) hnc1 hn (hT.below hW))
    (fun W hW => rpush_calls k alo ahi A n c aa hash W (hS1.below hW) hnc1 hn (hR.below hW))
    (fun W hW => mmerge_calls k alo ahi blo bhi A B n c m d aa bb W (hS1.below hW) (hS2.below hW) hn hm (hT.below hW))
    (fun W hW => rmerge_calls k alo ahi blo bhi A B n c m d aa bb W (hS1.below hW) (hS2.below hW) hn hm (hR.below hW))
    (fun W hW => asked_calls k alo ahi A n c aa blo bhi B m d bb hash W (hS1.below hW) (hS2.below hW) hnc1 hnc2 hn hm (hT.below hW) (hR.below hW))
    ⟨by rw [List.length_map]; exact l1.1, l1.2, by rw [List.length_map]; exact l2.1, l2.2⟩
end Go.Proofs.YtahkpcbemnfllaaDoor.Gen
