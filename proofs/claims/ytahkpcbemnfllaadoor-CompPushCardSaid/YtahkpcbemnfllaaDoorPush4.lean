/- The document's Push: its walk. -/
import Derived.Test.YtahkpcbemnfllaaDoorPush3
set_option linter.unusedVariables false
set_option linter.unusedSimpArgs false
namespace Go.Proofs.YtahkpcbemnfllaaDoor.Comp
open Go.RowKit Go.Proofs.YtahkpcbemnfllaaDoor.Base Go.Proofs.YtahkpcbemnfllaaDoor.Mem Go.Proofs.YtahkpcbemnfllaaDoor.Strs Go.Proofs.YtahkpcbemnfllaaDoor.ShaDig Go.Proofs.YtahkpcbemnfllaaDoor.TreeHash Go.Proofs.YtahkpcbemnfllaaDoor.Cov
open Go.Proofs.YtahkpcbemnfllaaDoor.Lst (OwnA Adr OwnA.shape Kp own_below Lst ac ac_append ac_length infoAddr own_lt own_base own_shape own_kp)

theorem rpush_end {w w1 w3 W5 : World} {lo hi1 : Int} {vh wv : Value} {hs : List ByteArray} {md : List Md} (hB1 : Below w.heap.size w w1) (hr : w.heap.size + 1 < w1.heap.size) (hB5 : Below w1.heap.size w1 W5)
    (oh : Strs.Own W5 w3.heap.size vh hs) (om : OwnM W5 w1.heap.size wv md) (hwl : ∀ k, wv.ownBlock = some k → k < w3.heap.size) (h13 : w1.heap.size ≤ w3.heap.size) (a b c : Value) :
    Ans lo hi1 0 hs md w (.returned (.tuple #[.agg #[.int .i64 lo, .int .i64 hi1, vh], wv, .int .i64 0])) (((W5.setCell ⟨w.heap.size + 1, 0, none⟩ a).setCell ⟨w.heap.size + 1, 1, none⟩ b).setCell ⟨w.heap.size + 1, 2, none⟩ c).drew := by
  have hne : ∀ (v : Value), (∀ j, v.ownBlock = some j → w1.heap.size ≤ j) → ∀ i : Nat, v.ownBlock ≠ some (⟨w.heap.size + 1, i, none⟩ : Addr).block := fun v hv i e => absurd (show w1.heap.size ≤ w.heap.size + 1 from hv _ e) (by omega)
  have b0 : ∀ i : Nat, w.heap.size ≤ (⟨w.heap.size + 1, i, none⟩ : Addr).block := fun _ => Nat.le_succ _
  have hs1 := hB1.size
  have oh' : ∀ j, vh.ownBlock = some j → w1.heap.size ≤ j := fun j e => by have := own_base oh j e; omega
  refine ⟨_, _, rfl, ?_, ?_, fun k e1 e2 => by have := own_base oh k e1; have := hwl k e2; omega, ?_⟩
  · exact Lst.own_down (ownsRow_setCell_other (ownsRow_setCell_other (ownsRow_setCell_other oh (hne _ oh' 0) _) (hne _ oh' 1) _) (hne _ oh' 2) _) (by omega)
  · exact Lst.own_down (ownsRow_setCell_other (ownsRow_setCell_other (ownsRow_setCell_other om (hne _ (own_base om) 0) _) (hne _ (own_base om) 1) _) (hne _ (own_base om) 2) _) hs1
  · exact ((((chain hB1 hB5).setCell (b0 0) _).setCell (b0 1) _).setCell (b0 2) _).drew
set_option maxRecDepth 100000 in
set_option maxHeartbeats 4000000 in
theorem rpush_calls (k lo hi : Int) (A : Option Addr) (n c : Nat) (ss : List ByteArray) (h : ByteArray) (w : World) (hS : Strs w A n ss) (hnc : n ≤ c) (hn : n ≤ 8796093022208) (hT : RTab w) :
    Calls Tryd.prog 20 #[.int .i64 k, fv lo hi A n c, .string h] w (PushA k lo hi ss h w) := by
  have r1 := (Row.new w #[.int .i64 lo, .int .i64 hi, .slice A n c] 24).alloc (.cells #[.int .i64 0, .int .i64 0, .slice none 0 0] 24)
  have r2 := Row.new (w.alloc (.cells #[.int .i64 lo, .int .i64 hi, .slice A n c] 24)) #[.int .i64 0, .int .i64 0, .slice none 0 0] 24
  rw [World.size_alloc] at r2
  have hb0 : Below w.heap.size w ((w.alloc (.cells #[.int .i64 lo, .int .i64 hi, .slice A n c] 24)).alloc (.cells #[.int .i64 0, .int .i64 0, .slice none 0 0] 24)) := ((Below.refl _ w).alloc (Nat.le_refl _) _).alloc (by simp) _
  have HK := Lib.hid (rcheck_calls k lo hi A n c ss _ (hS.below hb0) hn)
  have HR1 := Lib.hid r1
  have HR2 := Lib.hid r2
  have HB0 := Lib.hid hb0
  have HS := Lib.hid hS
  have HT := Lib.hid hT
  have HL := Lib.hid hS.len
  have c10 := r1.cell 0
  have c11 := r1.cell 1
  have c12 := r1.cell 2
  have HW := Lib.hid (fun W => rwidth_calls k W)
  clear r1 r2 hb0 hS hT
  by_cases hz : chk k lo hi ss = 0
  · have HCK := Lib.hid hz
    rw [hz] at HK
    clear hz
    by_cases hsz : h.size = wid k
    · have hs1 : ((h.size : Int) == (wid k : Int)) = true := by rw [beq_iff_eq]; omega
      have hs2 : ((h.size : Int) != (wid k : Int)) = false := by rw [bne, hs1]; rfl
      have HSZ := Lib.hid hsz
      clear hsz
      by_cases hmx : hi = 4611686018427387904
      · have HF : Hid (pushE k lo hi ss h = 10) := Lib.hid (by unfold pushE; rw [HCK.out, if_neg (by simp), if_neg (by simp [HSZ.out]), if_pos hmx])
        subst hmx
        go_enter Tryd.func20, Tryd.ntmps20
        go_wp2_with fail
        refine HK.out.mono ?_
        rintro e w1 ⟨rfl, b1⟩
        have HB1 := Lib.hid (chain HB0.out b1)
        have HQ1 := Lib.hid (HR1.out.below b1 HR1.out.lt)
        have q2 := HR2.out.below b1 HR2.out.lt
        have HQ2 := Lib.hid q2
        have y0 := HQ1.out.cell 0
        have y1 := HQ1.out.cell 1
        have y2 := HQ1.out.cell 2
        have x0 := q2.cell 0
        have x1 := q2.cell 1
        have x2 := q2.cell 2
        have f0 := q2.free 0
        have f1 := q2.free 1
        have f2 := q2.free 2
        clear b1 q2 c10 c11 c12
        go_wp2_with (go_at_call 40; ((with_reducible refine (HW.out _).mono ?_); rintro e w' ⟨rfl, rfl⟩))
        refine bodyPost_ret (v := .tuple #[fv 0 0 none 0 0, .slice none 0 0, .int .i64 10]) (by simp [results, Tryd.f20, go_sem, x0, x1, x2]) rfl (pushA_bad HF.out (by decide) ?_)
        exact ((HB1.out.setCell (by show w.heap.size ≤ w.heap.size + 1; omega) _).setCell (by show w.heap.size ≤ w.heap.size + 1; omega) _).setCell (by show w.heap.size ≤ w.heap.size + 1; omega) _
      · obtain ⟨e1, e2, e3, e4, e5, e6⟩ := chk_ok HCK.out
        obtain ⟨H, rfl⟩ : ∃ H : Nat, hi = H := ⟨hi.toNat, by omega⟩
        have hH : H < 4611686018427387904 := by omega
        have hm1 : ((H : Int) == 4611686018427387904) = false := by rw [beq_eq_false_iff_ne]; exact hmx
        have HF : Hid (pushE k lo (H : Int) ss h = 0) := Lib.hid (by unfold pushE; rw [HCK.out, if_neg (by simp), if_neg (by simp [HSZ.out]), if_neg hmx])
        have HCL := Lib.hid (covL_len lo (H : Int))
        have hcn : Hid ((covL lo (H : Int)).length = n) := Lib.hid (by rw [e2, HL.out])
        have HZO := Lib.hid (zip_ok HCK.out)
        have HWL := Lib.hid (wid_le k)
        clear e1 e2 e3 e4 e5 e6
        go_enter Tryd.func20, Tryd.ntmps20
        go_wp2_with fail
        refine HK.out.mono ?_
        rintro e w1 ⟨rfl, b1⟩
        have HB1 := Lib.hid (chain HB0.out b1)
        have HQ1 := Lib.hid (HR1.out.below b1 HR1.out.lt)
        have q2 := HR2.out.below b1 HR2.out.lt
        have HQ2 := Lib.hid q2
        have y0 := HQ1.out.cell 0
        have y1 := HQ1.out.cell 1
        have y2 := HQ1.out.cell 2
        clear b1 q2 c10 c11 c12
        have HOP := Lib.hid (open_calls lo (H : Int) A n c ss w1 (HS.out.below HB1.out) hcn.out)
        go_wp2_with (go_at_call 40; ((with_reducible refine (HW.out _).mono ?_); rintro e w' ⟨rfl, rfl⟩))
        refine HOP.out.mono ?_
        rintro e w2 ⟨v, rfl, ov, b2⟩
        have b3 : Below w2.heap.size w2 (w2.alloc (.cells #[v, .slice none 0 0] 80)) := (Below.refl _ w2).alloc (Nat.le_refl _) _
        have rp := Row.new w2 #[v, .slice none 0 0] 80
        have HRR : Hid (RunR w1 w2.heap.size ((covL lo (H : Int)).zip ss) [] v (.slice none 0 0) (w2.alloc (.cells #[v, .slice none 0 0] 80))) := Lib.hid {
          bel := chain b2 b3
          bp := b2.size
          row := rp
          on := own_below ov b3
          ow := World.ownsRow_nil _ _ _ _
          pn := fun e => by have := own_lt ov _ e; omega
          pw := fun e => by simp [Value.ownBlock] at e
          nw := fun _ _ e => by simp [Value.ownBlock] at e }
        obtain ⟨AV, cv, ev, _⟩ := own_mds ov
        have HBH := Lib.hid (rbehind_calls w1 w2.heap.size k ((covL lo (H : Int)).zip ss) [] ((0, H), h) v _ _ HRR.out (HT.out.below HB1.out) HZO.out ⟨Nat.zero_le _, by show (H + 1) * 2 ^ 0 ≤ _; omega, by show h.size ≤ 32; have := HWL.out; have := HSZ.out; omega⟩ (by have := HCL.out; rw [List.length_zip]; simp; omega))
        obtain ⟨LN, hLN⟩ : ∃ LN, ((covL lo (H : Int)).zip ss).length = LN := ⟨_, rfl⟩
        rw [hLN] at ev
        clear hLN
        subst ev
        have HB2 := Lib.hid b2
        have z0 := (HQ1.out.below b2 HQ1.out.lt).cell 0
        have z1 := (HQ1.out.below b2 HQ1.out.lt).cell 1
        have z2 := (HQ1.out.below b2 HQ1.out.lt).cell 2
        have zz0 := (HQ1.out.below (chain b2 b3) HQ1.out.lt).cell 0
        have zz1 := (HQ1.out.below (chain b2 b3) HQ1.out.lt).cell 1
        have zz2 := (HQ1.out.below (chain b2 b3) HQ1.out.lt).cell 2
        clear ov b2 b3 rp y0 y1 y2
        go_wp2_with fail
        refine HBH.out.mono ?_
        rintro e w3 ⟨rfl, nv, wv, R3⟩
        rw [List.nil_append] at R3
        obtain ⟨AN, cN, en, _, hmn, _⟩ := own_mds R3.on
        have hlenN := beh_len k ((covL lo (H : Int)).zip ss) ((0, H), h)
        have hzl : ((covL lo (H : Int)).zip ss).length ≤ 122 := by rw [List.length_zip]; have := HCL.out; omega
        have HM := Lib.hid hmn
        have HMS : Hid ((beh k ((covL lo (H : Int)).zip ss) ((0, H), h)).1.length ≤ 4000) := Lib.hid (by omega)
        have HPN : Hid (pushLo k lo (H : Int) ss h = lo ∧ pushHi k lo (H : Int) ss h = (H : Int) + 1 ∧ pushN k lo (H : Int) ss h = beh k ((covL lo (H : Int)).zip ss) ((0, H), h)) := Lib.hid (by
          unfold pushLo pushHi pushN
          rw [HF.out]
          exact ⟨if_neg (by simp), if_neg (by simp), by rw [if_neg (by simp)]; rfl⟩)
        generalize beh k ((covL lo (H : Int)).zip ss) ((0, H), h) = BB at *
        obtain ⟨N, hN⟩ : ∃ N, BB.1.length = N := ⟨_, rfl⟩
        rw [hN] at en HM HMS hmn
        subst en
        have HFR : Hid (∀ W, Below w3.heap.size w3 W → Calls Tryd.prog 43 #[.int .i64 lo, .int .i64 ((H : Int) + 1), .slice AN N cN] W (fun e w' => ∃ v, e = .returned (.agg #[.int .i64 lo, .int .i64 ((H : Int) + 1), v]) ∧ Strs.Own w' W.heap.size v (BB.1.map (·.2)) ∧ Below W.heap.size W w')) :=
          Lib.hid (fun W hW => frontier_calls lo ((H : Int) + 1) AN N cN BB.1 W (HM.out.below hW) HMS.out)
        have HR3 := Lib.hid R3
        have u0 := (HQ1.out.below R3.bel HQ1.out.lt).cell 0
        have u1 := (HQ1.out.below R3.bel HQ1.out.lt).cell 1
        have u2 := R3.row.cell 0
        have HC : Hid (∀ W, Below w3.heap.size w3 W → W.cell? ⟨w.heap.size, 0, none⟩ = some (.int .i64 lo) ∧ W.cell? ⟨w.heap.size, 1, none⟩ = some (.int .i64 (H : Int)) ∧ W.cell? ⟨w2.heap.size, 0, none⟩ = some (.slice AN N cN)) := Lib.hid (fun W hW => by
          have r := HR3.out.below hW
          exact ⟨(HQ1.out.below r.bel HQ1.out.lt).cell 0, (HQ1.out.below r.bel HQ1.out.lt).cell 1, r.row.cell 0⟩)
        have HH : (H : Int) + 1 ≤ 4611686018427387904 := by omega
        have hwr : IntKind.i64.wrap ((H : Int) + 1) = (H : Int) + 1 := IntWalk.i64_in _ (by omega)
        clear R3 hmn hlenN hzl z0 z1 z2 zz0 zz1 zz2
        go_wp2_with fail
        go_region_held3 (fun W => W.cell? ⟨w.heap.size, 0, none⟩ = some (.int .i64 lo) ∧ W.cell? ⟨w.heap.size, 1, none⟩ = some (.int .i64 (H : Int)) ∧ W.cell? ⟨w2.heap.size, 0, none⟩ = some (.slice AN N cN)) (first | go_keep | exact HC.out _ B4 | exact HC.out _ (B4.alloc B4.size _) | exact HC.out _ (((B4.setCell (Nat.le_refl _) _).setCell (Nat.le_refl _) _).setCell (Nat.le_refl _) _) | exact HC.out _ (((Below.refl _ _).alloc (Nat.le_refl _) _).drew))
          ((go_at_call 43; (with_reducible refine (HFR.out _ (by first | exact (Below.refl _ _).drew | exact ((Below.refl _ _).alloc (Nat.le_refl _) _).drew)).mono ?_); rintro e w4 ⟨v4, rfl, o4, b4⟩; obtain ⟨A4, c4, e4, _, _⟩ := o4.shape; obtain ⟨M4, hM4⟩ : ∃ M4, (BB.1.map (·.2)).length = M4 := ⟨_, rfl⟩; rw [hM4] at e4; clear hM4; subst e4; have B4 : Below w3.heap.size w3 w4 := (by first | exact chain (Below.refl _ _).drew b4 | exact chain ((Below.refl _ _).alloc (Nat.le_refl _) _).drew b4); (first | (have rz := Row.below (Row.drew (Row.new w3 #[.int .i64 0, .int .i64 0, .slice none 0 0] 24)) b4 (by simp); have g0 := rz.cell 0; have g1 := rz.cell 1; have g2 := rz.cell 2; have g3 := rz.free 0; have g4 := rz.free 1; have g5 := rz.free 2; clear rz) | skip); have HO4 := Lib.hid o4; have HB4 := Lib.hid b4; clear o4 b4))
        · have bA := B4.alloc B4.size (.cells #[.int .i64 lo, .int .i64 ((H : Int) + 1), .slice A4 M4 c4] 24)
          have rA := Row.new w4 #[.int .i64 lo, .int .i64 ((H : Int) + 1), .slice A4 M4 c4] 24
          have HR5 := Lib.hid (HR3.out.below bA)
          have hn3 : ¬ (w4.heap.size = w.heap.size + 1) := by have := HQ2.out.lt; have := HR3.out.bel.size; have := B4.size; omega
          have hn4 : ¬ (w.heap.size + 1 = w4.heap.size) := by have := HQ2.out.lt; have := HR3.out.bel.size; have := B4.size; omega
          have HO5 : Hid (Strs.Own (w4.alloc (.cells #[.int .i64 lo, .int .i64 ((H : Int) + 1), .slice A4 M4 c4] 24)) w3.heap.size (.slice A4 M4 c4) (BB.1.map (·.2))) := Lib.hid (World.ownsRow.alloc HO4.out _)
          have HRB := Lib.hid rA
          clear bA rA B4 HC HFR
          obtain ⟨W5, hW5⟩ : ∃ W5, w4.alloc (.cells #[.int .i64 lo, .int .i64 ((H : Int) + 1), .slice A4 M4 c4] 24) = W5 := ⟨_, rfl⟩
          rw [hW5] at HR5 HO5 HRB ⊢
          clear hW5
          have R5 := HR5.out
          have HEND := Lib.hid (rpush_end (lo := lo) (hi1 := (H : Int) + 1) HB1.out HQ2.out.lt R5.bel HO5.out R5.ow (own_lt HR3.out.ow) HR3.out.bel.size)
          have v0 := HRB.out.cell 0
          have v1 := HRB.out.cell 1
          have v2 := HRB.out.cell 2
          have v3 := R5.row.cell 1
          have q3 := HQ2.out.below R5.bel HQ2.out.lt
          have d0 := q3.cell 0
          have d1 := q3.cell 1
          have d2 := q3.cell 2
          have f0 := q3.free 0
          have f1 := q3.free 1
          have f2 := q3.free 2
          have hn1 : ¬ (w.heap.size + 1 = w2.heap.size) := by have := HQ2.out.lt; have := HR3.out.bp; omega
          have hn2 : ¬ (w2.heap.size = w.heap.size + 1) := by have := HQ2.out.lt; have := HR3.out.bp; omega
          clear R5 q3 u0 u1 u2
          go_wp2_with fail
          go_region
          all_goals go_wp2
          refine bodyPost_ret (v := .tuple #[.agg #[.int .i64 lo, .int .i64 ((H : Int) + 1), .slice A4 M4 c4], wv, .int .i64 0]) (by simp [results, Tryd.f20, go_sem, d0, d1, d2]) rfl ?_
          unfold PushA
          rw [HPN.out.1, HPN.out.2.1, HPN.out.2.2, HF.out]
          exact HEND.out _ _ _
        · have rz := Row.below (Row.drew (Row.new w3 #[.int .i64 0, .int .i64 0, .slice none 0 0] 24)) HB4.out (by simp)
          have bB := ((B4.setCell (p := ⟨w3.heap.size, 0, none⟩) (Nat.le_refl _) (.int .i64 lo)).setCell (p := ⟨w3.heap.size, 1, none⟩) (Nat.le_refl _) (.int .i64 ((H : Int) + 1))).setCell (p := ⟨w3.heap.size, 2, none⟩) (Nat.le_refl _) (.slice A4 M4 c4)
          have HR5 := Lib.hid (HR3.out.below bB)
          have HRB := Lib.hid (((rz.set 0 (.int .i64 lo)).set 1 (.int .i64 ((H : Int) + 1))).set 2 (.slice A4 M4 c4))
          have hn3 : ¬ (w3.heap.size = w.heap.size + 1) := by have := HQ2.out.lt; have := HR3.out.bel.size; omega
          have hn4 : ¬ (w.heap.size + 1 = w3.heap.size) := by have := HQ2.out.lt; have := HR3.out.bel.size; omega
          have hoff : ∀ i : Nat, (Value.slice A4 M4 c4).ownBlock ≠ some (⟨w3.heap.size, i, none⟩ : Addr).block := fun i e => by
            have h1 := own_base HO4.out _ e
            have h2 : (w3.alloc (.cells #[.int .i64 0, .int .i64 0, .slice none 0 0] 24)).heap.size ≤ w3.heap.size := h1
            rw [World.size_alloc] at h2
            omega
          have HO5 := Lib.hid (Lst.own_down (base' := w3.heap.size) (ownsRow_setCell_other (a := ⟨w3.heap.size, 2, none⟩) (ownsRow_setCell_other (a := ⟨w3.heap.size, 1, none⟩) (ownsRow_setCell_other (a := ⟨w3.heap.size, 0, none⟩) HO4.out (hoff 0) (.int .i64 lo)) (hoff 1) (.int .i64 ((H : Int) + 1))) (hoff 2) (.slice A4 M4 c4)) (by show w3.heap.size ≤ (w3.alloc (.cells #[.int .i64 0, .int .i64 0, .slice none 0 0] 24)).heap.size; rw [World.size_alloc]; omega))
          clear rz bB B4 HC HFR hoff HO4 HB4
          obtain ⟨W5, hW5⟩ : ∃ W5, ((w4.setCell ⟨w3.heap.size, 0, none⟩ (.int .i64 lo)).setCell ⟨w3.heap.size, 1, none⟩ (.int .i64 ((H : Int) + 1))).setCell ⟨w3.heap.size, 2, none⟩ (.slice A4 M4 c4) = W5 := ⟨_, rfl⟩
          rw [hW5] at HR5 HO5 HRB ⊢
          clear hW5 g0 g1 g2 g3 g4 g5
          have R5 := HR5.out
          have HEND := Lib.hid (rpush_end (lo := lo) (hi1 := (H : Int) + 1) HB1.out HQ2.out.lt R5.bel HO5.out R5.ow (own_lt HR3.out.ow) HR3.out.bel.size)
          have v0 := HRB.out.cell 0
          have v1 := HRB.out.cell 1
          have v2 := HRB.out.cell 2
          have v3 := R5.row.cell 1
          have q3 := HQ2.out.below R5.bel HQ2.out.lt
          have d0 := q3.cell 0
          have d1 := q3.cell 1
          have d2 := q3.cell 2
          have f0 := q3.free 0
          have f1 := q3.free 1
          have f2 := q3.free 2
          have hn1 : ¬ (w.heap.size + 1 = w2.heap.size) := by have := HQ2.out.lt; have := HR3.out.bp; omega
          have hn2 : ¬ (w2.heap.size = w.heap.size + 1) := by have := HQ2.out.lt; have := HR3.out.bp; omega
          clear R5 q3 u0 u1 u2
          go_wp2_with fail
          go_region
          all_goals go_wp2
          refine bodyPost_ret (v := .tuple #[.agg #[.int .i64 lo, .int .i64 ((H : Int) + 1), .slice A4 M4 c4], wv, .int .i64 0]) (by simp [results, Tryd.f20, go_sem, d0, d1, d2]) rfl ?_
          unfold PushA
          rw [HPN.out.1, HPN.out.2.1, HPN.out.2.2, HF.out]
          exact HEND.out _ _ _
    · have hs1 : ((h.size : Int) == (wid k : Int)) = false := by rw [beq_eq_false_iff_ne]; omega
      have hs2 : ((h.size : Int) != (wid k : Int)) = true := by rw [bne, hs1]; rfl
      have HF : Hid (pushE k lo hi ss h = 72) := Lib.hid (by unfold pushE; rw [HCK.out, if_neg (by simp), if_pos hsz])
      clear hsz
      go_enter Tryd.func20, Tryd.ntmps20
      go_wp2_with fail
      refine HK.out.mono ?_
      rintro e w1 ⟨rfl, b1⟩
      have HB1 := Lib.hid (chain HB0.out b1)
      have HQ1 := Lib.hid (HR1.out.below b1 HR1.out.lt)
      have q2 := HR2.out.below b1 HR2.out.lt
      have HQ2 := Lib.hid q2
      have y0 := HQ1.out.cell 0
      have y1 := HQ1.out.cell 1
      have y2 := HQ1.out.cell 2
      have x0 := q2.cell 0
      have x1 := q2.cell 1
      have x2 := q2.cell 2
      have f0 := q2.free 0
      have f1 := q2.free 1
      have f2 := q2.free 2
      clear b1 q2 c10 c11 c12
      go_wp2_with (go_at_call 40; ((with_reducible refine (HW.out _).mono ?_); rintro e w' ⟨rfl, rfl⟩))
      refine bodyPost_ret (v := .tuple #[fv 0 0 none 0 0, .slice none 0 0, .int .i64 72]) (by simp [results, Tryd.f20, go_sem, x0, x1, x2]) rfl (pushA_bad HF.out (by decide) ?_)
      exact ((HB1.out.setCell (by show w.heap.size ≤ w.heap.size + 1; omega) _).setCell (by show w.heap.size ≤ w.heap.size + 1; omega) _).setCell (by show w.heap.size ≤ w.heap.size + 1; omega) _
  · have HF : Hid (pushE k lo hi ss h = chk k lo hi ss) := Lib.hid (by unfold pushE; rw [if_pos hz])
    have HZ := Lib.hid hz
    generalize chk k lo hi ss = z at *
    have hlo1 : (z == 0) = false := by rw [beq_eq_false_iff_ne]; exact hz
    have hlo2 : (z != 0) = true := by rw [bne, hlo1]; rfl
    clear hz
    go_enter Tryd.func20, Tryd.ntmps20
    go_wp2_with fail
    refine HK.out.mono ?_
    rintro e w1 ⟨rfl, b1⟩
    have HB1 := Lib.hid (chain HB0.out b1)
    have q2 := HR2.out.below b1 HR2.out.lt
    have x0 := q2.cell 0
    have x1 := q2.cell 1
    have x2 := q2.cell 2
    have f0 := q2.free 0
    have f1 := q2.free 1
    have f2 := q2.free 2
    clear b1 q2 c10 c11 c12
    go_wp2
    refine bodyPost_ret (v := .tuple #[fv 0 0 none 0 0, .slice none 0 0, .int .i64 z]) (by simp [results, Tryd.f20, go_sem, x0, x1, x2]) rfl (pushA_bad HF.out HZ.out ?_)
    exact ((HB1.out.setCell (by show w.heap.size ≤ w.heap.size + 1; omega) _).setCell (by show w.heap.size ≤ w.heap.size + 1; omega) _).setCell (by show w.heap.size ≤ w.heap.size + 1; omega) _
end Go.Proofs.YtahkpcbemnfllaaDoor.Comp
