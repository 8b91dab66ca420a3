/- CompMerge: its walk. -/
import Derived.Test.YtahkpcbemnfllaaDoorMerge3
set_option linter.unusedVariables false
set_option linter.unusedSimpArgs false
namespace Go.Proofs.YtahkpcbemnfllaaDoor.Comp
open Go.RowKit Go.Proofs.YtahkpcbemnfllaaDoor.Base Go.Proofs.YtahkpcbemnfllaaDoor.Mem Go.Proofs.YtahkpcbemnfllaaDoor.Strs Go.Proofs.YtahkpcbemnfllaaDoor.ShaDig Go.Proofs.YtahkpcbemnfllaaDoor.TreeHash Go.Proofs.YtahkpcbemnfllaaDoor.Cov
open Go.Proofs.YtahkpcbemnfllaaDoor.Fold (foldH Fit)
open Go.Proofs.YtahkpcbemnfllaaDoor.Lst (OwnA Adr OwnA.shape Kp own_below own_lt own_base own_kp)

/-- What stays while the twins are written: what lay before, the four boxes, the twins' rows. -/
structure S2 (w : World) (bx bY b1 b2 : Nat) (ca cb cx cy : Array Value) (v1 v2 : Value) (xs ys : List ByteArray) (W : World) : Prop where
  bel : Below w.heap.size w W
  ra : Row W w.heap.size ca 24
  rb : Row W (w.heap.size + 1) cb 24
  rx : Row W bx cx 24
  ry : Row W bY cy 24
  o1 : Strs.Own W b1 v1 xs
  o2 : Strs.Own W b2 v2 ys
variable {w W W' : World} {bx bY b1 b2 g1 g2 n1 c1 n2 c2 : Nat} {ca cb cx cy : Array Value} {v1 v2 : Value} {xs ys xs' : List ByteArray}
theorem S2.call (h : S2 w bx bY b1 b2 ca cb cx cy v1 v2 xs ys W) (b : Below W.heap.size W W') : S2 w bx bY b1 b2 ca cb cx cy v1 v2 xs ys W' :=
  ⟨chain h.bel b, h.ra.below b h.ra.lt, h.rb.below b h.rb.lt, h.rx.below b h.rx.lt, h.ry.below b h.ry.lt, h.o1.below b, h.o2.below b⟩
structure Ne2 (w : World) (bx bY g1 g2 : Nat) : Prop where
  a1 : w.heap.size + 1 < g1
  a2 : w.heap.size + 1 < g2
  x1 : bx ≠ g1
  x2 : bx ≠ g2
  y1 : bY ≠ g1
  y2 : bY ≠ g2
  gg : g1 ≠ g2
theorem S2.kp1 (h : S2 w bx bY b1 b2 ca cb cx cy (.slice (some ⟨g1, 0, none⟩) n1 c1) (.slice (some ⟨g2, 0, none⟩) n2 c2) xs ys W) (N : Ne2 w bx bY g1 g2) (k : Kp (fun b => b = g1) W W') (o : Strs.Own W' b1 (.slice (some ⟨g1, 0, none⟩) n1 c1) xs') :
    S2 w bx bY b1 b2 ca cb cx cy (.slice (some ⟨g1, 0, none⟩) n1 c1) (.slice (some ⟨g2, 0, none⟩) n2 c2) xs' ys W' :=
  have h1 := N.a1
  ⟨k.toBelow h.bel h.bel.size (fun q e => by omega), (k.block _ h.ra.lt (by omega)).trans h.ra, (k.block _ h.rb.lt (by omega)).trans h.rb, (k.block _ h.rx.lt N.x1).trans h.rx, (k.block _ h.ry.lt N.y1).trans h.ry, o,
    own_kp h.o2 k (fun g e1 e2 => by simp only [Value.ownBlock, Option.some.injEq] at e1; have := N.gg; omega)⟩
theorem S2.kp2 (h : S2 w bx bY b1 b2 ca cb cx cy (.slice (some ⟨g1, 0, none⟩) n1 c1) (.slice (some ⟨g2, 0, none⟩) n2 c2) ys xs W) (N : Ne2 w bx bY g1 g2) (k : Kp (fun b => b = g2) W W') (o : Strs.Own W' b2 (.slice (some ⟨g2, 0, none⟩) n2 c2) xs') :
    S2 w bx bY b1 b2 ca cb cx cy (.slice (some ⟨g1, 0, none⟩) n1 c1) (.slice (some ⟨g2, 0, none⟩) n2 c2) ys xs' W' :=
  have h1 := N.a2
  ⟨k.toBelow h.bel h.bel.size (fun q e => by omega), (k.block _ h.ra.lt (by omega)).trans h.ra, (k.block _ h.rb.lt (by omega)).trans h.rb, (k.block _ h.rx.lt N.x2).trans h.rx, (k.block _ h.ry.lt N.y2).trans h.ry,
    own_kp h.o1 k (fun g e1 e2 => by simp only [Value.ownBlock, Option.some.injEq] at e1; have := N.gg; omega), o⟩
set_option maxRecDepth 100000 in
set_option maxHeartbeats 4000000 in
theorem compMerge_in (k alo ahi : Int) (A : Option Addr) (n c : Nat) (aa : List ByteArray) (blo bhi : Int) (B : Option Addr) (m d : Nat) (bb : List ByteArray) (w : World) (hC1 : Came w A n c aa) (hC2 : Came w B m d bb) (hT : Tab w) (hRT : RTab w) :
    Calls Tryd.prog 5 #[.int .i64 k, fv alo ahi A n c, fv blo bhi B m d] w fun e w' => e = .returned (.bool true) ∧ Below w.heap.size w w' := by
  obtain ⟨hS1, hnc1, hcc1, hsz1⟩ := hC1
  obtain ⟨hS2, hnc2, hcc2, hsz2⟩ := hC2
  have hb0 : Below w.heap.size w ((w.alloc (.cells #[.int .i64 alo, .int .i64 ahi, .slice A n c] 24)).alloc (.cells #[.int .i64 blo, .int .i64 bhi, .slice B m d] 24)) := ((Below.refl _ w).alloc (Nat.le_refl _) _).alloc (by simp) _
  have r1 := (Row.new w #[.int .i64 alo, .int .i64 ahi, .slice A n c] 24).alloc (.cells #[.int .i64 blo, .int .i64 bhi, .slice B m d] 24)
  have r2 := Row.new (w.alloc (.cells #[.int .i64 alo, .int .i64 ahi, .slice A n c] 24)) #[.int .i64 blo, .int .i64 bhi, .slice B m d] 24
  rw [World.size_alloc] at r2
  have hz0 : ((w.alloc (.cells #[.int .i64 alo, .int .i64 ahi, .slice A n c] 24)).alloc (.cells #[.int .i64 blo, .int .i64 bhi, .slice B m d] 24)).heap.size = w.heap.size + 2 := by simp
  have HB0 := Lib.hid hb0
  have HR1 := Lib.hid r1
  have HR2 := Lib.hid r2
  have HZ0 := Lib.hid hz0
  have HS1 := Lib.hid hS1
  have HS2 := Lib.hid hS2
  have HL1 := Lib.hid hS1.len
  have HL2 := Lib.hid hS2.len
  have HT := Lib.hid hT
  have HRT := Lib.hid hRT
  have HSZ1 := Lib.hid hsz1
  have HSZ2 := Lib.hid hsz2
  have hn : n ≤ 8796093022000 := by omega
  have hm : m ≤ 8796093022000 := by omega
  have HRM := Lib.hid (roomy_calls alo ahi A n c aa _ (hS1.below hb0) hn)
  have c10 := r1.cell 0
  have c11 := r1.cell 1
  have c12 := r1.cell 2
  clear hS1 hS2 hb0 r1 r2 hT hRT hsz1 hsz2 hcc1 hcc2 hz0
  go_enter Tryd.func5, Tryd.ntmps5
  go_wp2_with fail
  refine HRM.out.mono ?_
  rintro e w1 ⟨g1, c1, rfl, hc1, hg1, ho1, b1⟩
  rw [HZ0.out] at hg1
  have hgl1 := (own_first (tl := tl2) ho1 HL1.out).2
  have bx1 := (Below.refl _ w1).alloc (Nat.le_refl _) (.cells #[.int .i64 alo, .int .i64 ahi, .slice (some ⟨g1, 0, none⟩) n c1] 24)
  have HB1 := Lib.hid (chain (HB0.out.trans (b1.mono HB0.out.size)) bx1)
  have HO1 := Lib.hid (ho1.below bx1)
  have HRX := Lib.hid (Row.new w1 #[.int .i64 alo, .int .i64 ahi, .slice (some ⟨g1, 0, none⟩) n c1] 24)
  have HRA := Lib.hid ((HR1.out.below b1 HR1.out.lt).below bx1 (HR1.out.below b1 HR1.out.lt).lt)
  have q2 := (HR2.out.below b1 HR2.out.lt).below bx1 (HR2.out.below b1 HR2.out.lt).lt
  have HRB := Lib.hid q2
  have HRM2 := Lib.hid (roomy_calls blo bhi B m d bb _ (HS2.out.below HB1.out) hm)
  have c20 := q2.cell 0
  have c21 := q2.cell 1
  have c22 := q2.cell 2
  clear ho1 b1 bx1 c10 c11 c12 q2
  go_wp2_with fail
  refine HRM2.out.mono ?_
  rintro e w2 ⟨g2, c2, rfl, hc2, hg2, ho2, b2⟩
  rw [World.size_alloc] at hg2
  have hgl2 := (own_first (tl := tl2) ho2 HL2.out).2
  have bx2 := (Below.refl _ w2).alloc (Nat.le_refl _) (.cells #[.int .i64 blo, .int .i64 bhi, .slice (some ⟨g2, 0, none⟩) m c2] 24)
  have hb12 := b2.size
  rw [World.size_alloc] at hb12
  have NE := Lib.hid (show Ne2 w w1.heap.size w2.heap.size g1 g2 from ⟨by omega, by omega, by omega, by omega, by omega, by omega, by omega⟩)
  have HX := HRX.out.below b2 HRX.out.lt
  have HA := HRA.out.below b2 HRA.out.lt
  have HBB := HRB.out.below b2 HRB.out.lt
  have hs0 : S2 w w1.heap.size w2.heap.size _ _ #[.int .i64 alo, .int .i64 ahi, .slice A n c] #[.int .i64 blo, .int .i64 bhi, .slice B m d] #[.int .i64 alo, .int .i64 ahi, .slice (some ⟨g1, 0, none⟩) n c1] #[.int .i64 blo, .int .i64 bhi, .slice (some ⟨g2, 0, none⟩) m c2] (.slice (some ⟨g1, 0, none⟩) (n + 2) c1) (.slice (some ⟨g2, 0, none⟩) (m + 2) c2) (aa ++ tl2) (bb ++ tl2) (w2.alloc (.cells #[.int .i64 blo, .int .i64 bhi, .slice (some ⟨g2, 0, none⟩) m c2] 24)) :=
    ⟨chain (chain HB1.out b2) bx2, HA.below bx2 HA.lt, HBB.below bx2 HBB.lt, HX.below bx2 HX.lt, Row.new _ _ _, (HO1.out.below b2).below bx2, ho2.below bx2⟩
  have ST0 := Lib.hid hs0
  have HOT := Lib.hid (other_calls alo ahi _ g1 n c1 aa tl2 _ hs0.o1 HL1.out hn HSZ1.out (own_first (tl := tl2) hs0.o1 HL1.out).2)
  have ra0 := hs0.ra.cell 0
  have ra1 := hs0.ra.cell 1
  have ra2 := hs0.ra.cell 2
  have rb0 := hs0.rb.cell 0
  have rb1 := hs0.rb.cell 1
  have rb2 := hs0.rb.cell 2
  have rx0 := hs0.rx.cell 0
  have rx1 := hs0.rx.cell 1
  have rx2 := hs0.rx.cell 2
  have ry0 := hs0.ry.cell 0
  have ry1 := hs0.ry.cell 1
  have ry2 := hs0.ry.cell 2
  clear hs0 HX HA HBB ho2 bx2 b2 c20 c21 c22
  go_wp2_with fail
  refine HOT.out.mono ?_
  rintro e w3 ⟨rfl, ys1, hy1, hy2, hy3, hy4⟩
  have hs := ST0.out.kp1 NE.out hy4 hy3
  have ST1 := Lib.hid hs
  have HY1 := Lib.hid hy1
  clear hy1 hy2 hy3 hy4 ra0 ra1 ra2 rb0 rb1 rb2 rx0 rx1 rx2 ry0 ry1 ry2
  have ra0 := hs.ra.cell 0
  have ra1 := hs.ra.cell 1
  have ra2 := hs.ra.cell 2
  have rb0 := hs.rb.cell 0
  have rb1 := hs.rb.cell 1
  have rb2 := hs.rb.cell 2
  have rx0 := hs.rx.cell 0
  have rx1 := hs.rx.cell 1
  have rx2 := hs.rx.cell 2
  have ry0 := hs.ry.cell 0
  have ry1 := hs.ry.cell 1
  have ry2 := hs.ry.cell 2
  have HOT := Lib.hid (other_calls blo bhi _ g2 m c2 bb tl2 _ hs.o2 HL2.out hm HSZ2.out (own_first (tl := tl2) hs.o2 HL2.out).2)
  clear hs
  go_wp2_with fail
  refine HOT.out.mono ?_
  rintro e w4 ⟨rfl, ys2, hy1, hy2, hy3, hy4⟩
  have hs := ST1.out.kp2 NE.out hy4 hy3
  have ST2 := Lib.hid hs
  have HY2 := Lib.hid hy1
  clear hy1 hy2 hy3 hy4 ra0 ra1 ra2 rb0 rb1 rb2 rx0 rx1 rx2 ry0 ry1 ry2
  have ra0 := hs.ra.cell 0
  have ra1 := hs.ra.cell 1
  have ra2 := hs.ra.cell 2
  have rb0 := hs.rb.cell 0
  have rb1 := hs.rb.cell 1
  have rb2 := hs.rb.cell 2
  have rx0 := hs.rx.cell 0
  have rx1 := hs.rx.cell 1
  have rx2 := hs.rx.cell 2
  have ry0 := hs.ry.cell 0
  have ry1 := hs.ry.cell 1
  have ry2 := hs.ry.cell 2
  have HK := Lib.hid (mmerge_calls k alo ahi blo bhi (some ⟨g1, 0, none⟩) (some ⟨g2, 0, none⟩) n c1 m c2 ys1 ys2 w4 (own_first (tl := tl2) hs.o1 HY1.out).1 (own_first (tl := tl2) hs.o2 HY2.out).1 (by omega) (by omega) (HT.out.below hs.bel))
  clear hs
  go_wp2_with fail
  refine HK.out.mono ?_
  rintro e w5 hA9
  obtain ⟨_, _, _, _, _, _, rfl, _, _, _, _, b9⟩ := Ans.shape hA9
  have hs := ST2.out.call b9
  have ST3 := Lib.hid hs
  clear hA9 b9 ra0 ra1 ra2 rb0 rb1 rb2 rx0 rx1 rx2 ry0 ry1 ry2
  have ra0 := hs.ra.cell 0
  have ra1 := hs.ra.cell 1
  have ra2 := hs.ra.cell 2
  have rb0 := hs.rb.cell 0
  have rb1 := hs.rb.cell 1
  have rb2 := hs.rb.cell 2
  have rx0 := hs.rx.cell 0
  have rx1 := hs.rx.cell 1
  have rx2 := hs.rx.cell 2
  have ry0 := hs.ry.cell 0
  have ry1 := hs.ry.cell 1
  have ry2 := hs.ry.cell 2
  have HBA := Lib.hid (back_calls alo ahi alo ahi _ g1 n c1 c A ys1 aa tl2 w5 hs.o1 HY1.out (HS1.out.below hs.bel) (fun hn0 ad e h => by
    obtain ⟨ad', e', hb', _⟩ := HS1.out.2 hn0
    rw [e] at e'; cases e'; have := NE.out.a1; omega) hn (own_first (tl := tl2) hs.o1 HY1.out).2)
  clear hs
  go_wp2_with fail
  refine HBA.out.mono ?_
  rintro e w6 ⟨rfl, zs, hz1, hz2, hz3, hz4⟩
  obtain rfl : zs = aa := by rw [← List.take_of_length_le (l := zs) (i := n) (by omega), hz2, List.take_of_length_le (by have := HL1.out; omega)]
  have hs := ST3.out.kp1 NE.out hz4 hz3
  have ST4 := Lib.hid hs
  clear hz1 hz2 hz3 hz4 ra0 ra1 ra2 rb0 rb1 rb2 rx0 rx1 rx2 ry0 ry1 ry2
  have ra0 := hs.ra.cell 0
  have ra1 := hs.ra.cell 1
  have ra2 := hs.ra.cell 2
  have rb0 := hs.rb.cell 0
  have rb1 := hs.rb.cell 1
  have rb2 := hs.rb.cell 2
  have rx0 := hs.rx.cell 0
  have rx1 := hs.rx.cell 1
  have rx2 := hs.rx.cell 2
  have ry0 := hs.ry.cell 0
  have ry1 := hs.ry.cell 1
  have ry2 := hs.ry.cell 2
  have HBA := Lib.hid (back_calls blo bhi blo bhi _ g2 m c2 d B ys2 bb tl2 w6 hs.o2 HY2.out (HS2.out.below hs.bel) (fun hn0 ad e h => by
    obtain ⟨ad', e', hb', _⟩ := HS2.out.2 hn0
    rw [e] at e'; cases e'; have := NE.out.a2; omega) hm (own_first (tl := tl2) hs.o2 HY2.out).2)
  clear hs
  go_wp2_with fail
  refine HBA.out.mono ?_
  rintro e w7 ⟨rfl, zs2, hz1, hz2, hz3, hz4⟩
  obtain rfl : zs2 = bb := by rw [← List.take_of_length_le (l := zs2) (i := m) (by omega), hz2, List.take_of_length_le (by have := HL2.out; omega)]
  have hs := ST4.out.kp2 NE.out hz4 hz3
  have ST5 := Lib.hid hs
  clear hz1 hz2 hz3 hz4 ra0 ra1 ra2 rb0 rb1 rb2 rx0 rx1 rx2 ry0 ry1 ry2
  have ra0 := hs.ra.cell 0
  have ra1 := hs.ra.cell 1
  have ra2 := hs.ra.cell 2
  have rb0 := hs.rb.cell 0
  have rb1 := hs.rb.cell 1
  have rb2 := hs.rb.cell 2
  have rx0 := hs.rx.cell 0
  have rx1 := hs.rx.cell 1
  have rx2 := hs.rx.cell 2
  have ry0 := hs.ry.cell 0
  have ry1 := hs.ry.cell 1
  have ry2 := hs.ry.cell 2
  have HK := Lib.hid (mmerge_calls k alo ahi blo bhi (some ⟨g1, 0, none⟩) (some ⟨g2, 0, none⟩) n c1 m c2 zs zs2 w7 (own_first (tl := tl2) hs.o1 HL1.out).1 (own_first (tl := tl2) hs.o2 HL2.out).1 (by omega) (by omega) (HT.out.below hs.bel))
  clear hs
  have HLN := Lib.hid (mergeN_len k alo ahi zs blo bhi zs2)
  unfold MergeA at HK
  have HK2 := Lib.hid (fun W h1 h2 h3 => rmerge_calls k alo ahi blo bhi A B n c m d zs zs2 W h1 h2 (by omega) (by omega) h3)
  unfold MergeA at HK2
  generalize mergeLo k alo ahi zs blo bhi zs2 = PL at *
  generalize mergeHi k alo ahi zs blo bhi zs2 = PH at *
  generalize mergeE k alo ahi zs blo bhi zs2 = PE at *
  generalize mergeN k alo ahi zs blo bhi zs2 = PN at *
  go_wp2_with fail
  refine HK.out.mono ?_
  rintro e w9 hA9
  obtain ⟨P1, p1, q1, P2, p2, q2, rfl, ps, pm, pe1, pe2, b9⟩ := Ans.shape hA9
  have bA := (Below.refl _ w9).alloc (Nat.le_refl _) (.cells #[.int .i64 PL, .int .i64 PH, .slice P1 p1 q1] 24)
  have hs := (ST5.out.call b9).call bA
  have ST6 := Lib.hid hs
  have HRWA := Lib.hid (Row.new w9 #[.int .i64 PL, .int .i64 PH, .slice P1 p1 q1] 24)
  have HPS := Lib.hid (ps.below bA)
  have HPM := Lib.hid (pm.below bA)
  have HPE := Lib.hid (And.intro pe1 pe2)
  have HK3 := Lib.hid (HK2.out (w9.alloc (.cells #[.int .i64 PL, .int .i64 PH, .slice P1 p1 q1] 24)) (HS1.out.below hs.bel) (HS2.out.below hs.bel) (HRT.out.below hs.bel))
  clear hA9 bA b9 ps pm pe1 pe2 ra0 ra1 ra2 rb0 rb1 rb2 rx0 rx1 rx2 ry0 ry1 ry2
  have ra0 := hs.ra.cell 0
  have ra1 := hs.ra.cell 1
  have ra2 := hs.ra.cell 2
  have rb0 := hs.rb.cell 0
  have rb1 := hs.rb.cell 1
  have rb2 := hs.rb.cell 2
  have rx0 := hs.rx.cell 0
  have rx1 := hs.rx.cell 1
  have rx2 := hs.rx.cell 2
  have ry0 := hs.ry.cell 0
  have ry1 := hs.ry.cell 1
  have ry2 := hs.ry.cell 2
  clear hs
  go_wp2_with fail
  refine HK3.out.mono ?_
  rintro e wX hA9
  obtain ⟨Q1, u1, v1, Q2, u2, v2, rfl, qs, qm, qe1, qe2, b9⟩ := Ans.shape hA9
  have bB := (Below.refl _ wX).alloc (Nat.le_refl _) (.cells #[.int .i64 PL, .int .i64 PH, .slice Q1 u1 v1] 24)
  have hs := (ST6.out.call b9).call bB
  have ST7 := Lib.hid hs
  have HRWB := Lib.hid (Row.new wX #[.int .i64 PL, .int .i64 PH, .slice Q1 u1 v1] 24)
  have rwa := (HRWA.out.below b9 HRWA.out.lt).below bB (HRWA.out.below b9 HRWA.out.lt).lt
  have hu1 : u1 = p1 := by rw [qe1, HPE.out.1]
  have hu2 : u2 = p2 := by rw [qe2, HPE.out.2]
  subst hu1 hu2
  have HSA := Lib.hid (same_calls PL PH P1 Q1 u1 q1 v1 (PN.1.map (·.2)) _ ((HPS.out.below b9).below bB) (qs.below bB) (by rw [HPE.out.1, List.length_map]; have := HLN.out.1; omega))
  have HMA := Lib.hid (And.intro ((HPM.out.below b9).below bB) (qm.below bB))
  have i0 := rwa.cell 0
  have i1 := rwa.cell 1
  have i2 := rwa.cell 2
  have j0 := HRWB.out.cell 0
  have j1 := HRWB.out.cell 1
  have j2 := HRWB.out.cell 2
  clear hA9 b9 bB qs qm qe1 qe2 rwa ra0 ra1 ra2 rb0 rb1 rb2 rx0 rx1 rx2 ry0 ry1 ry2
  have ra0 := hs.ra.cell 0
  have ra1 := hs.ra.cell 1
  have ra2 := hs.ra.cell 2
  have rb0 := hs.rb.cell 0
  have rb1 := hs.rb.cell 1
  have rb2 := hs.rb.cell 2
  have rx0 := hs.rx.cell 0
  have rx1 := hs.rx.cell 1
  have rx2 := hs.rx.cell 2
  have ry0 := hs.ry.cell 0
  have ry1 := hs.ry.cell 1
  have ry2 := hs.ry.cell 2
  clear hs
  go_wp2_with fail
  refine HSA.out.mono ?_
  rintro e wY ⟨rfl, bY⟩
  have hs := ST7.out.call bY
  have ST8 := Lib.hid hs
  have HSMD := Lib.hid (sameMade_calls P2 Q2 u2 q2 v2 PN.2 wY (HMA.out.1.below bY) (HMA.out.2.below bY) (by rw [HPE.out.2]; have := HLN.out.2; omega))
  clear bY i0 i1 i2 j0 j1 j2 ra0 ra1 ra2 rb0 rb1 rb2 rx0 rx1 rx2 ry0 ry1 ry2
  have ra0 := hs.ra.cell 0
  have ra1 := hs.ra.cell 1
  have ra2 := hs.ra.cell 2
  have rb0 := hs.rb.cell 0
  have rb1 := hs.rb.cell 1
  have rb2 := hs.rb.cell 2
  have rx0 := hs.rx.cell 0
  have rx1 := hs.rx.cell 1
  have rx2 := hs.rx.cell 2
  have ry0 := hs.ry.cell 0
  have ry1 := hs.ry.cell 1
  have ry2 := hs.ry.cell 2
  clear hs
  go_wp2_with fail
  refine HSMD.out.mono ?_
  rintro e _ ⟨rfl, kd, rfl⟩
  have hs := ST8.out.call (drewN_below wY kd)
  have ST9 := Lib.hid hs
  have HU := Lib.hid (untouched_calls alo ahi A _ g1 n c1 c zs (wY.drewN kd) hs.o1 (HS1.out.below hs.bel) hn hc1)
  clear ra0 ra1 ra2 rb0 rb1 rb2 rx0 rx1 rx2 ry0 ry1 ry2
  have ra0 := hs.ra.cell 0
  have ra1 := hs.ra.cell 1
  have ra2 := hs.ra.cell 2
  have rb0 := hs.rb.cell 0
  have rb1 := hs.rb.cell 1
  have rb2 := hs.rb.cell 2
  have rx0 := hs.rx.cell 0
  have rx1 := hs.rx.cell 1
  have rx2 := hs.rx.cell 2
  have ry0 := hs.ry.cell 0
  have ry1 := hs.ry.cell 1
  have ry2 := hs.ry.cell 2
  clear hs
  go_wp2_with fail
  refine HU.out.mono ?_
  rintro e wV ⟨rfl, bV⟩
  have hs := ST9.out.call bV
  have ST10 := Lib.hid hs
  have HU := Lib.hid (untouched_calls blo bhi B _ g2 m c2 d zs2 wV hs.o2 (HS2.out.below hs.bel) hm hc2)
  clear bV ra0 ra1 ra2 rb0 rb1 rb2 rx0 rx1 rx2 ry0 ry1 ry2
  have ra0 := hs.ra.cell 0
  have ra1 := hs.ra.cell 1
  have ra2 := hs.ra.cell 2
  have rb0 := hs.rb.cell 0
  have rb1 := hs.rb.cell 1
  have rb2 := hs.rb.cell 2
  have rx0 := hs.rx.cell 0
  have rx1 := hs.rx.cell 1
  have rx2 := hs.rx.cell 2
  have ry0 := hs.ry.cell 0
  have ry1 := hs.ry.cell 1
  have ry2 := hs.ry.cell 2
  clear hs
  go_wp2_with fail
  refine HU.out.mono ?_
  rintro e wZ ⟨rfl, bZ⟩
  have HEND := Lib.hid (ST10.out.call bZ).bel
  clear bZ ra0 ra1 ra2 rb0 rb1 rb2 rx0 rx1 rx2 ry0 ry1 ry2
  go_wp2
  go_ret
  exact ⟨by simp, HEND.out⟩
theorem compMerge_walk (k alo ahi : Int) (A : Option Addr) (n c : Nat) (aa : List ByteArray) (blo bhi : Int) (B : Option Addr) (m d : Nat) (bb : List ByteArray) (w : World) (_ : (Lit.int .i64 k).wf = true) (_ : (Lit.int .i64 alo).wf = true) (_ : (Lit.int .i64 ahi).wf = true) (hC1 : Came w A n c aa) (_ : (Lit.int .i64 blo).wf = true) (_ : (Lit.int .i64 bhi).wf = true) (hC2 : Came w B m d bb)
    (h1 : ∀ i : Nat, i < 8 → w.cell? ⟨1, i, none⟩ = some (.int .u32 (Ints I0.list i))) (h2 : ∀ i : Nat, i < 64 → w.cell? ⟨2, i, none⟩ = some (.int .u32 (Ints K0 i)))
    (h3 : ∀ i : Nat, i < 8 → w.cell? ⟨3, i, none⟩ = some (.int .u32 (Ints I0.list i))) (h4 : ∀ i : Nat, i < 64 → w.cell? ⟨4, i, none⟩ = some (.int .u32 (Ints K0 i))) :
    Calls Tryd.prog 5 #[.int .i64 k, fv alo ahi A n c, fv blo bhi B m d] w fun e w' => e = .returned (.bool true) ∧ Below w.heap.size w w' :=
  compMerge_in k alo ahi A n c aa blo bhi B m d bb w hC1 hC2 (tab_of h3 h4) (rtab_of h1 h2)
end Go.Proofs.YtahkpcbemnfllaaDoor.Comp
