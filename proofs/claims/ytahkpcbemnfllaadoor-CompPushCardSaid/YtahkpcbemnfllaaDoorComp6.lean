/- CompPush: its walk. -/
import Derived.Test.YtahkpcbemnfllaaDoorPush4
set_option linter.unusedVariables false
set_option linter.unusedSimpArgs false
namespace Go.Proofs.YtahkpcbemnfllaaDoor.Comp
open Go.RowKit Go.Proofs.YtahkpcbemnfllaaDoor.Base Go.Proofs.YtahkpcbemnfllaaDoor.Mem Go.Proofs.YtahkpcbemnfllaaDoor.Strs Go.Proofs.YtahkpcbemnfllaaDoor.ShaDig Go.Proofs.YtahkpcbemnfllaaDoor.TreeHash Go.Proofs.YtahkpcbemnfllaaDoor.Cov
open Go.Proofs.YtahkpcbemnfllaaDoor.Fold (foldH Fit)
open Go.Proofs.YtahkpcbemnfllaaDoor.Lst (OwnA Adr OwnA.shape Kp own_below own_lt own_base)

theorem pushN_len (k lo hi : Int) (ss : List ByteArray) (h : ByteArray) : (pushN k lo hi ss h).1.length ≤ 4000 ∧ (pushN k lo hi ss h).2.length ≤ 4000 := by
  unfold pushN
  split
  · simp
  · have h1 := beh_len k ((covL lo hi).zip ss) ((0, hi.toNat), h)
    have h2 := covL_len lo hi
    rw [List.length_zip] at h1
    omega
/-- An answer as the law sees it. -/
theorem Ans.shape {lo hi z : Int} {hs : List ByteArray} {md : List Md} {w w' : World} {e : Ending} (h : Ans lo hi z hs md w e w') : ∃ B1 n1 c1 B2 n2 c2, e = .returned (.tuple #[fv lo hi B1 n1 c1, .slice B2 n2 c2, .int .i64 z]) ∧ Strs w' B1 n1 hs ∧ Mds w' B2 n2 md ∧ n1 = hs.length ∧ n2 = md.length ∧ Below w.heap.size w w' := by
  obtain ⟨vh, vm, rfl, oh, om, _, b⟩ := h
  obtain ⟨B1, c1, rfl, _, hs1⟩ := oh.shape
  obtain ⟨B2, c2, rfl, _, hm2, _⟩ := own_mds om
  exact ⟨B1, _, c1, B2, _, c2, rfl, hs1, hm2, rfl, rfl, b⟩
set_option maxRecDepth 100000 in
set_option maxHeartbeats 4000000 in
theorem compPush_in (k lo hi : Int) (A : Option Addr) (n c : Nat) (ss : List ByteArray) (h : ByteArray) (z : Int) (w : World) (hC : Came w A n c ss) (hT : Tab w) (hRT : RTab w) :
    Calls Tryd.prog 4 #[.int .i64 k, fv lo hi A n c, .string h, .int .i64 z] w fun e w' => e = .returned (.bool true) ∧ Below w.heap.size w w' := by
  obtain ⟨hS, hnc, hcc, hsz⟩ := hC
  have hl := hS.len
  have hb0 : Below w.heap.size w (w.alloc (.cells #[.int .i64 lo, .int .i64 hi, .slice A n c] 24)) := (Below.refl _ w).alloc (Nat.le_refl _) _
  have r1 := Row.new w #[.int .i64 lo, .int .i64 hi, .slice A n c] 24
  have HB0 := Lib.hid hb0
  have HR1 := Lib.hid r1
  have HS := Lib.hid hS
  have HL := Lib.hid hl
  have HT := Lib.hid hT
  have HRT := Lib.hid hRT
  have HSZ := Lib.hid hsz
  have hn : n ≤ 8796093022000 := by omega
  have HMS := Lib.hid (fun W => mstart_calls z W)
  have HRS := Lib.hid (fun W => rstart_calls z W)
  have c10 := r1.cell 0
  have c11 := r1.cell 1
  have c12 := r1.cell 2
  clear hS hb0 r1 hT hRT hsz hl hcc
  go_enter Tryd.func4, Tryd.ntmps4
  go_wp2_with fail
  refine (HMS.out _).mono ?_
  rintro e wa ⟨rfl, ba⟩
  have bs := (Below.refl _ wa).alloc (Nat.le_refl _) (.cells #[.int .i64 (startL z), .int .i64 (startL z), .slice none 0 0] 24)
  have HBA := Lib.hid (chain (chain HB0.out ba) bs)
  have HRA := Lib.hid ((HR1.out.below ba HR1.out.lt).below bs (HR1.out.below ba HR1.out.lt).lt)
  have HRSB := Lib.hid (Row.new wa #[.int .i64 (startL z), .int .i64 (startL z), .slice none 0 0] 24)
  clear ba bs c10 c11 c12
  go_wp2_with fail
  refine (HRS.out _).mono ?_
  rintro e wb ⟨rfl, bb⟩
  have bt := (Below.refl _ wb).alloc (Nat.le_refl _) (.cells #[.int .i64 (startL z), .int .i64 (startL z), .slice none 0 0] 24)
  have HBB := Lib.hid (chain (chain HBA.out bb) bt)
  have HRB := Lib.hid ((HRA.out.below bb HRA.out.lt).below bt (HRA.out.below bb HRA.out.lt).lt)
  have sr := (HRSB.out.below bb HRSB.out.lt).below bt (HRSB.out.below bb HRSB.out.lt).lt
  have tr := Row.new wb #[.int .i64 (startL z), .int .i64 (startL z), .slice none 0 0] 24
  have s0 := sr.cell 0
  have s1 := sr.cell 1
  have s2 := sr.cell 2
  have t0 := tr.cell 0
  have t1 := tr.cell 1
  have t2 := tr.cell 2
  have HSM := Lib.hid (fun W => same_calls (startL z) (startL z) none none 0 0 0 [] W ⟨rfl, fun h => absurd h (by omega)⟩ ⟨rfl, fun h => absurd h (by omega)⟩ (by omega))
  clear bb bt sr tr
  go_wp2_with fail
  refine (HSM.out _).mono ?_
  rintro e wc ⟨rfl, bc⟩
  have HBC := Lib.hid (chain HBB.out bc)
  have rc := HRB.out.below bc HRB.out.lt
  have HRC := Lib.hid rc
  have HRM := Lib.hid (roomy_calls lo hi A n c ss wc (HS.out.below HBC.out) (by omega))
  have c10 := rc.cell 0
  have c11 := rc.cell 1
  have c12 := rc.cell 2
  clear bc rc s0 s1 s2 t0 t1 t2
  go_wp2_with fail
  refine HRM.out.mono ?_
  rintro e w1 ⟨g, c2, rfl, hc2, hg, ho, b1⟩
  have hwc := HBC.out.size
  have hfb := HRC.out.lt
  have HO1 := Lib.hid ho
  have hgl := (own_first (tl := tl2) ho HL.out).2
  have hb1 := b1.alloc b1.size (.cells #[.int .i64 lo, .int .i64 hi, .slice (some ⟨g, 0, none⟩) n c2] 24)
  have hrs1 : RS w w1.heap.size g #[.int .i64 lo, .int .i64 hi, .slice A n c] #[.int .i64 lo, .int .i64 hi, .slice (some ⟨g, 0, none⟩) n c2] (w1.alloc (.cells #[.int .i64 lo, .int .i64 hi, .slice (some ⟨g, 0, none⟩) n c2] 24)) :=
    ⟨chain HBC.out hb1, (HRC.out.below b1 HRC.out.lt).alloc _, Row.new _ _ _⟩
  have HRS1 := Lib.hid hrs1
  have hgne : w1.heap.size ≠ g := by omega
  have hgw : w.heap.size < g := by omega
  have HOT := Lib.hid (other_calls lo hi _ g n c2 ss tl2 (w1.alloc (.cells #[.int .i64 lo, .int .i64 hi, .slice (some ⟨g, 0, none⟩) n c2] 24)) (HO1.out.below ((Below.refl _ _).alloc (Nat.le_refl _) _)) HL.out hn HSZ.out (by simp; omega))
  have d1 := hrs1.r2.cell 0
  have d2 := hrs1.r2.cell 1
  have d3 := hrs1.r2.cell 2
  clear ho b1 hb1 hrs1 hgl c10 c11 c12
  go_wp2_with fail
  refine HOT.out.mono ?_
  rintro e w2 ⟨rfl, ys, hy1, hy2, hy3, hy4⟩
  have hrsw2 := HRS1.out.kp hy4 hgw hgne
  have HRSw2 := Lib.hid hrsw2
  have HY3 := Lib.hid hy3
  have HY1 := Lib.hid hy1
  have e10 := hrsw2.r1.cell 0
  have e11 := hrsw2.r1.cell 1
  have e12 := hrsw2.r1.cell 2
  have e20 := hrsw2.r2.cell 0
  have e21 := hrsw2.r2.cell 1
  have e22 := hrsw2.r2.cell 2
  have HK := Lib.hid (check_calls k lo hi (some ⟨g, 0, none⟩) n c2 ys w2 (own_first (tl := tl2) hy3 hy1).1 (by omega))
  clear hy1 hy2 hy3 hy4 hrsw2 d1 d2 d3
  go_wp2_with fail
  refine HK.out.mono ?_
  rintro e w3 ⟨rfl, b9⟩
  have hrsw3 := HRSw2.out.call b9
  have HRSw3 := Lib.hid hrsw3
  have e10 := hrsw3.r1.cell 0
  have e11 := hrsw3.r1.cell 1
  have e12 := hrsw3.r1.cell 2
  have e20 := hrsw3.r2.cell 0
  have e21 := hrsw3.r2.cell 1
  have e22 := hrsw3.r2.cell 2
  have HY4 := Lib.hid (HY3.out.below b9)
  have HG3 := Lib.hid (own_first (tl := tl2) HY4.out HY1.out).2
  have HBA := Lib.hid (back_calls lo hi lo hi _ g n c2 c A ys ss tl2 w3 HY4.out HY1.out (HS.out.below hrsw3.bel) (fun hn0 ad e h => by
    obtain ⟨ad', e', hb', _⟩ := HS.out.2 hn0
    rw [e] at e'; cases e'; omega) hn HG3.out)
  clear hrsw3 b9
  go_wp2_with fail
  refine HBA.out.mono ?_
  rintro e w4 ⟨rfl, zs, hz1, hz2, hz3, hz4⟩
  obtain rfl : zs = ss := by rw [← List.take_of_length_le (l := zs) (i := n) (by omega), hz2, List.take_of_length_le (by have := HL.out; omega)]
  have hrsw4 := HRSw3.out.kp hz4 hgw hgne
  have HRSw4 := Lib.hid hrsw4
  have HO4 := Lib.hid hz3
  have e10 := hrsw4.r1.cell 0
  have e11 := hrsw4.r1.cell 1
  have e12 := hrsw4.r1.cell 2
  have e20 := hrsw4.r2.cell 0
  have e21 := hrsw4.r2.cell 1
  have e22 := hrsw4.r2.cell 2
  have HK := Lib.hid (check_calls k lo hi (some ⟨g, 0, none⟩) n c2 zs w4 (own_first (tl := tl2) hz3 hz1).1 (by omega))
  clear hrsw4 hz1 hz2 hz3 hz4
  go_wp2_with fail
  refine HK.out.mono ?_
  rintro e w5 ⟨rfl, b9⟩
  have hrsw5 := HRSw4.out.call b9
  have HRSw5 := Lib.hid hrsw5
  have e10 := hrsw5.r1.cell 0
  have e11 := hrsw5.r1.cell 1
  have e12 := hrsw5.r1.cell 2
  have e20 := hrsw5.r2.cell 0
  have e21 := hrsw5.r2.cell 1
  have e22 := hrsw5.r2.cell 2
  have HO5 := Lib.hid (HO4.out.below b9)
  have HOT := Lib.hid (other_calls lo hi _ g n c2 zs tl2 w5 HO5.out HL.out hn HSZ.out (own_first (tl := tl2) HO5.out HL.out).2)
  clear hrsw5 b9
  go_wp2_with fail
  refine HOT.out.mono ?_
  rintro e w6 ⟨rfl, ys, hy1, hy2, hy3, hy4⟩
  have hrsw6 := HRSw5.out.kp hy4 hgw hgne
  have HRSw6 := Lib.hid hrsw6
  have HY3 := Lib.hid hy3
  have HY1 := Lib.hid hy1
  have e10 := hrsw6.r1.cell 0
  have e11 := hrsw6.r1.cell 1
  have e12 := hrsw6.r1.cell 2
  have e20 := hrsw6.r2.cell 0
  have e21 := hrsw6.r2.cell 1
  have e22 := hrsw6.r2.cell 2
  have HK := Lib.hid (mpush_calls k lo hi (some ⟨g, 0, none⟩) n c2 ys h w6 (own_first (tl := tl2) hy3 hy1).1 (by omega) (by omega) (HT.out.below hrsw6.bel))
  clear hy1 hy2 hy3 hy4 hrsw6
  go_wp2_with fail
  refine HK.out.mono ?_
  rintro e w7 hA9
  obtain ⟨_, _, _, _, _, _, rfl, _, _, _, _, b9⟩ := Ans.shape hA9
  clear hA9
  have hrsw7 := HRSw6.out.call b9
  have HRSw7 := Lib.hid hrsw7
  have e10 := hrsw7.r1.cell 0
  have e11 := hrsw7.r1.cell 1
  have e12 := hrsw7.r1.cell 2
  have e20 := hrsw7.r2.cell 0
  have e21 := hrsw7.r2.cell 1
  have e22 := hrsw7.r2.cell 2
  have HY4 := Lib.hid (HY3.out.below b9)
  have HG3 := Lib.hid (own_first (tl := tl2) HY4.out HY1.out).2
  have HBA := Lib.hid (back_calls lo hi lo hi _ g n c2 c A ys zs tl2 w7 HY4.out HY1.out (HS.out.below hrsw7.bel) (fun hn0 ad e h => by
    obtain ⟨ad', e', hb', _⟩ := HS.out.2 hn0
    rw [e] at e'; cases e'; omega) hn HG3.out)
  clear hrsw7 b9
  go_wp2_with fail
  refine HBA.out.mono ?_
  rintro e w8 ⟨rfl, zs2, hz1, hz2, hz3, hz4⟩
  obtain rfl : zs2 = zs := by rw [← List.take_of_length_le (l := zs2) (i := n) (by omega), hz2, List.take_of_length_le (by have := HL.out; omega)]
  have hrsw8 := HRSw7.out.kp hz4 hgw hgne
  have HRSw8 := Lib.hid hrsw8
  have HO4 := Lib.hid hz3
  have e10 := hrsw8.r1.cell 0
  have e11 := hrsw8.r1.cell 1
  have e12 := hrsw8.r1.cell 2
  have e20 := hrsw8.r2.cell 0
  have e21 := hrsw8.r2.cell 1
  have e22 := hrsw8.r2.cell 2
  have HK := Lib.hid (mpush_calls k lo hi (some ⟨g, 0, none⟩) n c2 zs2 h w8 (own_first (tl := tl2) hz3 hz1).1 (by omega) (by omega) (HT.out.below hrsw8.bel))
  clear hrsw8 hz1 hz2 hz3 hz4
  have HLN := Lib.hid (pushN_len k lo hi zs2 h)
  unfold PushA at HK
  have HK2 := Lib.hid (fun W => rpush_calls k lo hi A n c zs2 h W)
  unfold PushA at HK2
  generalize pushLo k lo hi zs2 h = PL at *
  generalize pushHi k lo hi zs2 h = PH at *
  generalize pushE k lo hi zs2 h = PE at *
  generalize pushN k lo hi zs2 h = PN at *
  go_wp2_with fail
  refine HK.out.mono ?_
  rintro e w9 hA9
  obtain ⟨P1, p1, q1, P2, p2, q2, rfl, ps, pm, pe1, pe2, b9⟩ := Ans.shape hA9
  clear hA9
  have hrsw9 := HRSw8.out.call b9
  have HRSw9 := Lib.hid hrsw9
  have e10 := hrsw9.r1.cell 0
  have e11 := hrsw9.r1.cell 1
  have e12 := hrsw9.r1.cell 2
  have e20 := hrsw9.r2.cell 0
  have e21 := hrsw9.r2.cell 1
  have e22 := hrsw9.r2.cell 2
  have ba := b9.alloc b9.size (.cells #[.int .i64 PL, .int .i64 PH, .slice P1 p1 q1] 24)
  have bA := (Below.refl _ w9).alloc (Nat.le_refl _) (.cells #[.int .i64 PL, .int .i64 PH, .slice P1 p1 q1] 24)
  have hrsA := hrsw9.call bA
  have HRSA := Lib.hid hrsA
  have HRWA := Lib.hid (Row.new w9 #[.int .i64 PL, .int .i64 PH, .slice P1 p1 q1] 24)
  have HPS := Lib.hid (ps.below bA)
  have HPM := Lib.hid (pm.below bA)
  have HPE := Lib.hid (And.intro pe1 pe2)
  have HOA := Lib.hid ((HO4.out.below b9).below bA)
  have HK3 := Lib.hid (HK2.out (w9.alloc (.cells #[.int .i64 PL, .int .i64 PH, .slice P1 p1 q1] 24)) (HS.out.below hrsA.bel) hnc (by omega) (HRT.out.below hrsA.bel))
  have e10 := hrsA.r1.cell 0
  have e11 := hrsA.r1.cell 1
  have e12 := hrsA.r1.cell 2
  have e20 := hrsA.r2.cell 0
  have e21 := hrsA.r2.cell 1
  have e22 := hrsA.r2.cell 2
  clear hrsw9 hrsA ba bA b9 ps pm pe1 pe2
  go_wp2_with fail
  refine HK3.out.mono ?_
  rintro e wX hA9
  obtain ⟨Q1, u1, v1, Q2, u2, v2, rfl, qs, qm, qe1, qe2, b9⟩ := Ans.shape hA9
  clear hA9
  have bB := (Below.refl _ wX).alloc (Nat.le_refl _) (.cells #[.int .i64 PL, .int .i64 PH, .slice Q1 u1 v1] 24)
  have hrsB := (HRSA.out.call b9).call bB
  have HRSB2 := Lib.hid hrsB
  have HRWB := Lib.hid (Row.new wX #[.int .i64 PL, .int .i64 PH, .slice Q1 u1 v1] 24)
  have rwa := (HRWA.out.below b9 HRWA.out.lt).below bB (HRWA.out.below b9 HRWA.out.lt).lt
  have HOB := Lib.hid ((HOA.out.below b9).below bB)
  have hu1 : u1 = p1 := by rw [qe1, HPE.out.1]
  have hu2 : u2 = p2 := by rw [qe2, HPE.out.2]
  subst hu1 hu2
  have HSA := Lib.hid (same_calls PL PH P1 Q1 u1 q1 v1 (PN.1.map (·.2)) _ ((HPS.out.below b9).below bB) (qs.below bB) (by rw [HPE.out.1, List.length_map]; have := HLN.out.1; omega))
  have HMA := Lib.hid (And.intro ((HPM.out.below b9).below bB) (qm.below bB))
  have i0 := rwa.cell 0
  have i1 := rwa.cell 1
  have i2 := rwa.cell 2
  have j0 := HRWB.out.cell 0
  have j1 := HRWB.out.cell 1
  have j2 := HRWB.out.cell 2
  have e10 := hrsB.r1.cell 0
  have e11 := hrsB.r1.cell 1
  have e12 := hrsB.r1.cell 2
  have e20 := hrsB.r2.cell 0
  have e21 := hrsB.r2.cell 1
  have e22 := hrsB.r2.cell 2
  clear hrsB b9 bB qs qm qe1 qe2 rwa
  go_wp2_with fail
  refine HSA.out.mono ?_
  rintro e wY ⟨rfl, bY⟩
  have hrsY := HRSB2.out.call bY
  have HRSY := Lib.hid hrsY
  have HOY := Lib.hid (HOB.out.below bY)
  have HSMD := Lib.hid (sameMade_calls P2 Q2 u2 q2 v2 PN.2 wY (HMA.out.1.below bY) (HMA.out.2.below bY) (by rw [HPE.out.2]; have := HLN.out.2; omega))
  have e10 := hrsY.r1.cell 0
  have e11 := hrsY.r1.cell 1
  have e12 := hrsY.r1.cell 2
  have e20 := hrsY.r2.cell 0
  have e21 := hrsY.r2.cell 1
  have e22 := hrsY.r2.cell 2
  clear hrsY bY i0 i1 i2 j0 j1 j2
  go_wp2_with fail
  refine HSMD.out.mono ?_
  rintro e _ ⟨rfl, kd, rfl⟩
  have hrsZ := HRSY.out.drewN kd
  have HRSZ := Lib.hid hrsZ
  have HU := Lib.hid (untouched_calls lo hi A _ g n c2 c zs2 (wY.drewN kd) (HOY.out.below (drewN_below _ _)) (HS.out.below hrsZ.bel) hn hc2)
  have e10 := hrsZ.r1.cell 0
  have e11 := hrsZ.r1.cell 1
  have e12 := hrsZ.r1.cell 2
  have e20 := hrsZ.r2.cell 0
  have e21 := hrsZ.r2.cell 1
  have e22 := hrsZ.r2.cell 2
  clear hrsZ
  go_wp2_with fail
  refine HU.out.mono ?_
  rintro e wV ⟨rfl, bV⟩
  have hrsV := HRSZ.out.call bV
  have HRSV := Lib.hid hrsV
  have HRK := Lib.hid (rcheck_calls k lo hi A n c zs2 wV (HS.out.below hrsV.bel) (by omega))
  have e10 := hrsV.r1.cell 0
  have e11 := hrsV.r1.cell 1
  have e12 := hrsV.r1.cell 2
  have e20 := hrsV.r2.cell 0
  have e21 := hrsV.r2.cell 1
  have e22 := hrsV.r2.cell 2
  clear hrsV bV
  go_wp2_with fail
  refine HRK.out.mono ?_
  rintro e wW ⟨rfl, bW⟩
  have HRSW := Lib.hid (HRSV.out.call bW)
  clear bW
  go_wp2
  go_ret
  exact ⟨by simp, HRSW.out.bel⟩
theorem compPush_walk (k lo hi : Int) (A : Option Addr) (n c : Nat) (ss : List ByteArray) (h : ByteArray) (z : Int) (w : World) (_ : (Lit.int .i64 k).wf = true) (_ : (Lit.int .i64 lo).wf = true) (_ : (Lit.int .i64 hi).wf = true) (hC : Came w A n c ss) (_ : h.size ≤ 140737488351232) (_ : (Lit.int .i64 z).wf = true)
    (h1 : ∀ i : Nat, i < 8 → w.cell? ⟨1, i, none⟩ = some (.int .u32 (Ints I0.list i))) (h2 : ∀ i : Nat, i < 64 → w.cell? ⟨2, i, none⟩ = some (.int .u32 (Ints K0 i)))
    (h3 : ∀ i : Nat, i < 8 → w.cell? ⟨3, i, none⟩ = some (.int .u32 (Ints I0.list i))) (h4 : ∀ i : Nat, i < 64 → w.cell? ⟨4, i, none⟩ = some (.int .u32 (Ints K0 i))) :
    Calls Tryd.prog 4 #[.int .i64 k, fv lo hi A n c, .string h, .int .i64 z] w fun e w' => e = .returned (.bool true) ∧ Below w.heap.size w w' :=
  compPush_in k lo hi A n c ss h z w hC (tab_of h3 h4) (rtab_of h1 h2)
end Go.Proofs.YtahkpcbemnfllaaDoor.Comp
