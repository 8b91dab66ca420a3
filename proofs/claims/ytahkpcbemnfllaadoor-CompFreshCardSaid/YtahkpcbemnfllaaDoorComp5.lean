/- untouched; CompRoot: their walks. -/
import Derived.Test.YtahkpcbemnfllaaDoorComp4
set_option linter.unusedVariables false
set_option linter.unusedSimpArgs false
namespace Go.Proofs.YtahkpcbemnfllaaDoor.Comp
open Go.RowKit Go.Proofs.YtahkpcbemnfllaaDoor.Base Go.Proofs.YtahkpcbemnfllaaDoor.Mem Go.Proofs.YtahkpcbemnfllaaDoor.Strs Go.Proofs.YtahkpcbemnfllaaDoor.ShaDig Go.Proofs.YtahkpcbemnfllaaDoor.TreeHash Go.Proofs.YtahkpcbemnfllaaDoor.Cov
open Go.Proofs.YtahkpcbemnfllaaDoor.Fold (foldH Fit)
open Go.Proofs.YtahkpcbemnfllaaDoor.Lst (OwnA Adr OwnA.shape Kp own_below)

abbrev tl2 : List ByteArray := [mark, mark]
theorem own_first {w : World} {base g n c : Nat} {xs tl : List ByteArray} (h : Strs.Own w base (.slice (some ⟨g, 0, none⟩) (n + tl.length) c) (xs ++ tl)) (hl : xs.length = n) : Strs w (some ⟨g, 0, none⟩) n xs ∧ g < w.heap.size := by
  obtain ⟨B, c', e, _, hs⟩ := h.shape
  injection e with e1 e2 e3
  subst e1
  rw [show (xs ++ tl).length = n + tl.length by rw [List.length_append, hl]] at hs
  have := hs.take n (by omega)
  rw [List.take_left' hl] at this
  refine ⟨this, ?_⟩
  rcases h.2 with ⟨h0, _⟩ | ⟨g', cap, cur, h0, _, hh, _⟩
  · cases h0
  · simp only [Value.slice.injEq, Option.some.injEq, Addr.mk.injEq] at h0
    obtain ⟨⟨rfl, _⟩, _⟩ := h0
    exact (Array.getElem?_eq_some_iff.1 hh).1
theorem untouched_calls (lo hi : Int) (A : Option Addr) (base g n c d : Nat) (ss : List ByteArray) (w : World) (hO : Strs.Own w base (.slice (some ⟨g, 0, none⟩) (n + 2) c) (ss ++ tl2)) (hS : Strs w A n ss) (hn : n ≤ 8796093022000) (hc : n + 2 ≤ c) :
    Calls Tryd.prog 14 #[fv lo hi (some ⟨g, 0, none⟩) n c, fv lo hi A n d] w (fun e w' => e = .returned (.bool true) ∧ Below w.heap.size w w') := by
  have hl := hS.len
  obtain ⟨hT, hg⟩ := own_first (tl := tl2) hO hl
  have r1 := (Row.new w #[.int .i64 lo, .int .i64 hi, .slice (some ⟨g, 0, none⟩) n c] 24).alloc (.cells #[.int .i64 lo, .int .i64 hi, .slice A n d] 24)
  have r2 := Row.new (w.alloc (.cells #[.int .i64 lo, .int .i64 hi, .slice (some ⟨g, 0, none⟩) n c] 24)) #[.int .i64 lo, .int .i64 hi, .slice A n d] 24
  rw [World.size_alloc] at r2
  have hb0 : Below w.heap.size w ((w.alloc (.cells #[.int .i64 lo, .int .i64 hi, .slice (some ⟨g, 0, none⟩) n c] 24)).alloc (.cells #[.int .i64 lo, .int .i64 hi, .slice A n d] 24)) := ((Below.refl _ w).alloc (Nat.le_refl _) _).alloc (by simp) _
  have HSM := Lib.hid (same_calls lo hi (some ⟨g, 0, none⟩) A n c d ss _ (hT.below hb0) (hS.below hb0) (by omega))
  have HO := Lib.hid hO
  have HB0 := Lib.hid hb0
  have HR1 := Lib.hid r1
  have HR2 := Lib.hid r2
  have c10 := r1.cell 0
  have c11 := r1.cell 1
  have c12 := r1.cell 2
  have c20 := r2.cell 0
  have c21 := r2.cell 1
  have c22 := r2.cell 2
  have m1 : (ss ++ tl2).getD n ⟨#[]⟩ = mark := by rw [List.getD_eq_getElem?_getD, List.getElem?_append_right (by omega), hl]; simp
  have m2 : (ss ++ tl2).getD (n + 1) ⟨#[]⟩ = mark := by rw [List.getD_eq_getElem?_getD, List.getElem?_append_right (by omega), hl]; simp
  have HM1 := Lib.hid m1
  have HM2 := Lib.hid m2
  have hcut : ∀ W, (Instr.slice 22 (.slice (some ⟨g, 0, none⟩) n c) none (some (.int .i64 ((n : Int) + 2))) none).run Tryd.prog W = .ok (.slice (some ⟨g, 0, none⟩) (n + 2) c) W := fun W => run_cut_h W (some ⟨g, 0, none⟩) n c (n + 2) (by omega)
  have hX : (⟨g, 0, none⟩ : Addr).add n = ⟨g, n, none⟩ := Arr.add_plain g n 0 |>.trans (by rw [Nat.zero_add])
  have hX1 : (⟨g, 0, none⟩ : Addr).add (n + 1) = ⟨g, n + 1, none⟩ := Arr.add_plain g (n + 1) 0 |>.trans (by rw [Nat.zero_add])
  have hmk : (mark.toList == [109, 97, 114, 107]) = true := by rw [Base.toList_data]; decide
  clear hO hS hT r1 r2 hb0 m1 m2
  go_enter Tryd.func14, Tryd.ntmps14
  go_wp2_with fail
  refine HSM.out.mono ?_
  rintro e w1 ⟨rfl, b1⟩
  have HB1 := Lib.hid (chain HB0.out b1)
  have hO1 := HO.out.below HB1.out
  have k1 := (own_cell hO1 n (by omega)).1
  have k2 := (own_cell hO1 (n + 1) (by omega)).1
  rw [HM1.out] at k1
  rw [HM2.out] at k2
  have q12 := (HR1.out.below b1 HR1.out.lt).cell 2
  clear hO1 b1
  go_wp2
  go_ret
  exact ⟨by simp [mark], HB1.out⟩
/-- What stays while the twin's list is written over: what lay before; the two boxes. -/
structure RS (w : World) (b2 g : Nat) (cs1 cs2 : Array Value) (W : World) : Prop where
  bel : Below w.heap.size w W
  r1 : Row W w.heap.size cs1 24
  r2 : Row W b2 cs2 24
theorem RS.call {w W W' : World} {b2 g : Nat} {cs1 cs2 : Array Value} (h : RS w b2 g cs1 cs2 W) (b : Below W.heap.size W W') : RS w b2 g cs1 cs2 W' := ⟨chain h.bel b, h.r1.below b h.r1.lt, h.r2.below b h.r2.lt⟩
theorem RS.kp {w W W' : World} {b2 g : Nat} {cs1 cs2 : Array Value} (h : RS w b2 g cs1 cs2 W) (k : Kp (fun b => b = g) W W') (h1 : w.heap.size < g) (h2 : b2 ≠ g) : RS w b2 g cs1 cs2 W' :=
  ⟨k.toBelow h.bel h.bel.size (fun q e => by omega), (k.block _ h.r1.lt (by omega)).trans h.r1, (k.block _ h.r2.lt h2).trans h.r2⟩
theorem RS.drewN {w W : World} {b2 g : Nat} {cs1 cs2 : Array Value} (h : RS w b2 g cs1 cs2 W) (k : Nat) : RS w b2 g cs1 cs2 (W.drewN k) := h.call (drewN_below _ _)
set_option maxRecDepth 100000 in
set_option maxHeartbeats 4000000 in
theorem compRoot_in (k lo hi : Int) (A : Option Addr) (n c : Nat) (ss : List ByteArray) (w : World) (hC : Came w A n c ss) (hT : Tab w) (hRT : RTab w) :
    Calls Tryd.prog 3 #[.int .i64 k, fv lo hi A n c] w fun e w' => e = .returned (.bool true) ∧ Below w.heap.size w w' := by
  obtain ⟨hS, hnc, hcc, hsz⟩ := hC
  have hl := hS.len
  have hb0 : Below w.heap.size w (w.alloc (.cells #[.int .i64 lo, .int .i64 hi, .slice A n c] 24)) := (Below.refl _ w).alloc (Nat.le_refl _) _
  have r1 := Row.new w #[.int .i64 lo, .int .i64 hi, .slice A n c] 24
  have HRM := Lib.hid (roomy_calls lo hi A n c ss _ (hS.below hb0) (by omega))
  have HB0 := Lib.hid hb0
  have HR1 := Lib.hid r1
  have HS := Lib.hid hS
  have HL := Lib.hid hl
  have HT := Lib.hid hT
  have HRT := Lib.hid hRT
  have HSZ := Lib.hid hsz
  have hn : n ≤ 8796093022000 := by omega
  have c10 := r1.cell 0
  have c11 := r1.cell 1
  have c12 := r1.cell 2
  clear hS hb0 r1 hT hRT hsz hl hcc
  go_enter Tryd.func3, Tryd.ntmps3
  go_wp2_with fail
  refine HRM.out.mono ?_
  rintro e w1 ⟨g, c2, rfl, hc2, hg, ho, b1⟩
  rw [World.size_alloc] at hg
  have HO1 := Lib.hid ho
  have hgl := (own_first (tl := tl2) ho HL.out).2
  have hb1 := b1.alloc b1.size (.cells #[.int .i64 lo, .int .i64 hi, .slice (some ⟨g, 0, none⟩) n c2] 24)
  have hrs1 : RS w w1.heap.size g #[.int .i64 lo, .int .i64 hi, .slice A n c] #[.int .i64 lo, .int .i64 hi, .slice (some ⟨g, 0, none⟩) n c2] (w1.alloc (.cells #[.int .i64 lo, .int .i64 hi, .slice (some ⟨g, 0, none⟩) n c2] 24)) :=
    ⟨HB0.out.trans (hb1.mono (by simp)), (HR1.out.below b1 HR1.out.lt).alloc _, Row.new _ _ _⟩
  have HRS1 := Lib.hid hrs1
  have hgne : w1.heap.size ≠ g := by omega
  have HOT := Lib.hid (other_calls lo hi _ g n c2 ss tl2 (w1.alloc (.cells #[.int .i64 lo, .int .i64 hi, .slice (some ⟨g, 0, none⟩) n c2] 24)) (HO1.out.below ((Below.refl _ _).alloc (Nat.le_refl _) _)) HL.out hn HSZ.out (by simp; omega))
  have d1 := hrs1.r2.cell 0
  have d2 := hrs1.r2.cell 1
  have d3 := hrs1.r2.cell 2
  clear ho b1 hb1 hrs1 hgl
  go_wp2_with fail
  refine HOT.out.mono ?_
  rintro e w2 ⟨rfl, ys, hy1, hy2, hy3, hy4⟩
  have hrs2 := HRS1.out.kp hy4 (by omega) hgne
  have HRS2 := Lib.hid hrs2
  have HK2 := Lib.hid (mroot_calls k lo hi (some ⟨g, 0, none⟩) n c2 ys w2 (own_first (tl := tl2) hy3 hy1).1 (by omega) (by omega) (HT.out.below hrs2.bel))
  have e10 := hrs2.r1.cell 0
  have e11 := hrs2.r1.cell 1
  have e12 := hrs2.r1.cell 2
  have e20 := hrs2.r2.cell 0
  have e21 := hrs2.r2.cell 1
  have e22 := hrs2.r2.cell 2
  have HY3 := Lib.hid hy3
  have HY1 := Lib.hid hy1
  clear hy1 hy2 hy3 hy4 hrs2 d1 d2 d3 c10 c11 c12
  go_wp2_with fail
  refine HK2.out.mono ?_
  rintro e w3 ⟨rfl, b3⟩
  have hrs3 := HRS2.out.call b3
  have HRS3 := Lib.hid hrs3
  have HY4 := Lib.hid (HY3.out.below b3)
  have HG3 := Lib.hid (own_first (tl := tl2) HY4.out HY1.out).2
  have HBA := Lib.hid (back_calls lo hi lo hi _ g n c2 c A ys ss tl2 w3 HY4.out HY1.out (HS.out.below hrs3.bel) (fun hn0 ad e h => by
    obtain ⟨ad', e', hb', _⟩ := HS.out.2 hn0
    rw [e] at e'; cases e'; omega) hn HG3.out)
  have e10 := hrs3.r1.cell 0
  have e11 := hrs3.r1.cell 1
  have e12 := hrs3.r1.cell 2
  have e20 := hrs3.r2.cell 0
  have e21 := hrs3.r2.cell 1
  have e22 := hrs3.r2.cell 2
  clear hrs3 b3
  go_wp2_with fail
  refine HBA.out.mono ?_
  rintro e w4 ⟨rfl, zs, hz1, hz2, hz3, hz4⟩
  obtain rfl : zs = ss := by rw [← List.take_of_length_le (l := zs) (i := n) (by omega), hz2, List.take_of_length_le (by have := HL.out; omega)]
  have hrs4 := HRS3.out.kp hz4 (by omega) hgne
  have HRS4 := Lib.hid hrs4
  have HO4 := Lib.hid hz3
  have HK4 := Lib.hid (mroot_calls k lo hi (some ⟨g, 0, none⟩) n c2 zs w4 (own_first (tl := tl2) hz3 hz1).1 (by omega) (by omega) (HT.out.below hrs4.bel))
  have e10 := hrs4.r1.cell 0
  have e11 := hrs4.r1.cell 1
  have e12 := hrs4.r1.cell 2
  have e20 := hrs4.r2.cell 0
  have e21 := hrs4.r2.cell 1
  have e22 := hrs4.r2.cell 2
  clear hrs4 hz1 hz2 hz3 hz4
  go_wp2_with fail
  refine HK4.out.mono ?_
  rintro e w5 ⟨rfl, b5⟩
  have hrs5 := HRS4.out.call b5
  have HRS5 := Lib.hid hrs5
  have HO5 := Lib.hid (HO4.out.below b5)
  have HK5 := Lib.hid (rroot_calls k lo hi A n c zs w5 (HS.out.below hrs5.bel) hnc (by omega) (HRT.out.below hrs5.bel))
  have e10 := hrs5.r1.cell 0
  have e11 := hrs5.r1.cell 1
  have e12 := hrs5.r1.cell 2
  have e20 := hrs5.r2.cell 0
  have e21 := hrs5.r2.cell 1
  have e22 := hrs5.r2.cell 2
  clear hrs5 b5
  go_wp2_with fail
  refine HK5.out.mono ?_
  rintro e w6 ⟨rfl, b6⟩
  have hrs6 := HRS5.out.call b6
  have HRS6 := Lib.hid hrs6
  have HU := Lib.hid (untouched_calls lo hi A _ g n c2 c zs w6 (HO5.out.below b6) (HS.out.below hrs6.bel) hn hc2)
  have e10 := hrs6.r1.cell 0
  have e11 := hrs6.r1.cell 1
  have e12 := hrs6.r1.cell 2
  have e20 := hrs6.r2.cell 0
  have e21 := hrs6.r2.cell 1
  have e22 := hrs6.r2.cell 2
  clear hrs6 b6
  go_wp2_with fail
  refine HU.out.mono ?_
  rintro e w7 ⟨rfl, b7⟩
  have HRS7 := Lib.hid (HRS6.out.call b7)
  clear b7
  go_wp2
  go_ret
  exact ⟨by simp, HRS7.out.bel⟩
abbrev Ints (l : List Nat) (i : Nat) : Int := (l.map fun x : Nat => (x : Int)).getD i 0
theorem compRoot_walk (k lo hi : Int) (A : Option Addr) (n c : Nat) (ss : List ByteArray) (w : World) (_ : (Lit.int .i64 k).wf = true) (_ : (Lit.int .i64 lo).wf = true) (_ : (Lit.int .i64 hi).wf = true) (hC : Came w A n c ss)
    (h1 : ∀ i : Nat, i < 8 → w.cell? ⟨1, i, none⟩ = some (.int .u32 (Ints I0.list i))) (h2 : ∀ i : Nat, i < 64 → w.cell? ⟨2, i, none⟩ = some (.int .u32 (Ints K0 i)))
    (h3 : ∀ i : Nat, i < 8 → w.cell? ⟨3, i, none⟩ = some (.int .u32 (Ints I0.list i))) (h4 : ∀ i : Nat, i < 64 → w.cell? ⟨4, i, none⟩ = some (.int .u32 (Ints K0 i))) :
    Calls Tryd.prog 3 #[.int .i64 k, fv lo hi A n c] w fun e w' => e = .returned (.bool true) ∧ Below w.heap.size w w' :=
  compRoot_in k lo hi A n c ss w hC (tab_of h3 h4) (rtab_of h1 h2)
end Go.Proofs.YtahkpcbemnfllaaDoor.Comp
