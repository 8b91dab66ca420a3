/- open, frontier, begun: their walks. -/
import Derived.Test.YtahkpcbemnfllaaDoorPush1
import Derived.Test.YtahkpcbemnfllaaDoorBehW
set_option linter.unusedVariables false
set_option linter.unusedSimpArgs false
namespace Go.Proofs.YtahkpcbemnfllaaDoor.Comp
open Go.RowKit Go.Proofs.YtahkpcbemnfllaaDoor.Base Go.Proofs.YtahkpcbemnfllaaDoor.Mem Go.Proofs.YtahkpcbemnfllaaDoor.Strs Go.Proofs.YtahkpcbemnfllaaDoor.ShaDig Go.Proofs.YtahkpcbemnfllaaDoor.TreeHash Go.Proofs.YtahkpcbemnfllaaDoor.Cov
open Go.Proofs.YtahkpcbemnfllaaDoor.Lst (OwnA Adr OwnA.shape Kp own_below Lst ac ac_append ac_length infoAddr own_lt own_base own_shape own_kp)
attribute [-go_sem] Go.Builtin.append_

theorem zip_get (L : List (Nat × Nat)) (ss : List ByteArray) (j : Nat) (h1 : j < L.length) (h2 : j < ss.length) : (L.zip ss).take (j + 1) = (L.zip ss).take j ++ [(L.getD j (0, 0), ss.getD j ⟨#[]⟩)] := by
  rw [List.take_succ_eq_append_getElem (by rw [List.length_zip]; omega), List.getElem_zip]
  simp [List.getD_eq_getElem?_getD, h1, h2]
set_option maxRecDepth 100000 in
set_option maxHeartbeats 2000000 in
theorem open_calls (lo hi : Int) (A : Option Addr) (n c : Nat) (ss : List ByteArray) (w : World) (hS : Strs w A n ss) (hn : (covL lo hi).length = n) :
    Calls Tryd.prog 41 #[fv lo hi A n c] w (fun e w' => ∃ v, e = .returned v ∧ OwnM w' w.heap.size v ((covL lo hi).zip ss) ∧ Below w.heap.size w w') := by
  have hcl := covL_len lo hi
  have hl := hS.len
  have hb0 : Below w.heap.size w (w.alloc (.cells #[.int .i64 lo, .int .i64 hi, .slice A n c] 24)) := (Below.refl _ w).alloc (Nat.le_refl _) _
  have r0 := Row.new w #[.int .i64 lo, .int .i64 hi, .slice A n c] 24
  have HRC := Lib.hid (rcover_calls lo hi (w.alloc (.cells #[.int .i64 lo, .int .i64 hi, .slice A n c] 24)))
  have HB0 := Lib.hid hb0
  have HR0 := Lib.hid r0
  have HS := Lib.hid hS
  have HL := Lib.hid hl
  have c0 := r0.cell 0
  have c1 := r0.cell 1
  clear hS hb0 r0 hl
  generalize covL lo hi = L at *
  generalize covE lo hi = z at *
  go_enter Tryd.func41, Tryd.ntmps41
  go_wp2_with fail
  refine HRC.out.mono ?_
  rintro e w1 ⟨v1, rfl, o1, b1⟩
  obtain ⟨B, d, rfl, hd, ha, _⟩ := OwnA.shape o1
  have HB1 := Lib.hid (HB0.out.trans (b1.mono HB0.out.size))
  have HR1 := Lib.hid (HR0.out.below b1 HR0.out.lt)
  have HA := Lib.hid ha
  have HS1 := Lib.hid (HS.out.below HB1.out)
  clear o1 b1 ha c0 c1
  subst hn
  go_wp2
  go_loopw [5, 6] (fun s i wr => ∃ (v : Value) (j : Nat), v = s ∧ i = .int .i64 (j : Int) ∧ j ≤ L.length ∧ Hid (OwnM wr w1.heap.size v ((L.zip ss).take j)) ∧ Hid (Below w1.heap.size w1 wr)) (fun _ i _ => L.length - (intOf i).toNat)
  case atStart => exact ⟨_, 0, rfl, rfl, by omega, Lib.hid (by rw [List.take_zero]; exact World.ownsRow_nil _ _ _ _), Lib.hid (Below.refl _ _)⟩
  case round =>
    obtain ⟨v, j, rfl, rfl, hj, ho, hb⟩ := hrel
    by_cases hlt : j < L.length
    · obtain ⟨ad, rfl, _, hcell⟩ := (HS1.out.below hb.out).at_ j hlt
      obtain ⟨bd, X, rfl, _, hX, hXb, x0, x1⟩ := (HA.out.below hb.out).at2 j hlt
      have c2 := (HR1.out.below hb.out HR1.out.lt).cell 2
      have hz : Hid ((L.zip ss).take (j + 1) = (L.zip ss).take j ++ [(L.getD j (0, 0), ss.getD j ⟨#[]⟩)]) := Lib.hid (zip_get L ss j hlt (by rw [HL.out]; exact hlt))
      have hlen : ((L.zip ss).take j).length = j := by rw [List.length_take, List.length_zip, HL.out]; omega
      have j0 : (0 : Int) ≤ (j : Int) := by omega
      have j1 : (j : Int) < (L.length : Int) := by omega
      have ho' := ho.out
      generalize (L.zip ss).take j = T at *
      generalize L.getD j (0, 0) = y1 at *
      generalize ss.getD j ⟨#[]⟩ = y2 at *
      obtain ⟨g, c3, wA, a1, h1, h2, h3, h4⟩ := run_appM (y := (y1, y2)) (own_below ho' (((Below.refl _ wr).alloc (Nat.le_refl _) (boxM (y1, y2))).drew)) (heap_alloc_new _ _) (by simp; have := hb.out.size; omega) (by omega)
      rw [hlen] at a1
      have HO2 : Hid (OwnM wA w1.heap.size (.slice (some ⟨g, 0, none⟩) (j + 1) c3) ((L.zip ss).take (j + 1))) := Lib.hid (by
        rw [hz.out]; unfold OwnM; rw [List.length_append, hlen]; rw [hlen] at h1; exact h1)
      have HB2 : Hid (Below w1.heap.size w1 wA) := Lib.hid ((hb.out.alloc hb.out.size _).drew.grown h2 (by simp; have := hb.out.size; omega) (fun k e => own_base ho' k e))
      clear ho' h1 h2 h3 h4 hXb
      go_wp2
      go_region
      all_goals go_wp2
      all_goals
        go_roundw
        case rel => exact ⟨_, j + 1, rfl, by go_num, by omega, HO2, HB2⟩
        case measure => simp only [intOf]; omega
    · obtain rfl : j = L.length := by omega
      have ho' := ho.out
      rw [List.take_of_length_le (by rw [List.length_zip]; omega)] at ho'
      have HF := Lib.hid (And.intro (Lst.own_down ho' (show w.heap.size ≤ w1.heap.size from HB1.out.size)) (chain HB1.out hb.out))
      clear ho ho'
      go_wp2
      go_ret
      exact ⟨_, rfl, HF.out.1, HF.out.2⟩
abbrev boxS (y : ByteArray) : Obj := .cells #[.string y] 9
set_option maxRecDepth 100000 in
set_option maxHeartbeats 2000000 in
theorem frontier_calls (lo hi : Int) (B : Option Addr) (m c : Nat) (l : List Md) (w : World) (hM : Mds w B m l) (hm : m ≤ 4000) :
    Calls Tryd.prog 43 #[.int .i64 lo, .int .i64 hi, .slice B m c] w (fun e w' => ∃ v, e = .returned (.agg #[.int .i64 lo, .int .i64 hi, v]) ∧ Strs.Own w' w.heap.size v (l.map (·.2)) ∧ Below w.heap.size w w') := by
  have hl := hM.1
  have r1 := (Row.new w #[.int .i64 0, .int .i64 0, .slice none 0 0] 24).alloc (.cells #[.int .i64 lo, .int .i64 hi, .slice none 0 0] 24)
  have r2 := Row.new (w.alloc (.cells #[.int .i64 0, .int .i64 0, .slice none 0 0] 24)) #[.int .i64 lo, .int .i64 hi, .slice none 0 0] 24
  rw [World.size_alloc] at r2
  have hb0 : Below w.heap.size w ((w.alloc (.cells #[.int .i64 0, .int .i64 0, .slice none 0 0] 24)).alloc (.cells #[.int .i64 lo, .int .i64 hi, .slice none 0 0] 24)) := ((Below.refl _ w).alloc (Nat.le_refl _) _).alloc (by simp) _
  have hsz : ((w.alloc (.cells #[.int .i64 0, .int .i64 0, .slice none 0 0] 24)).alloc (.cells #[.int .i64 lo, .int .i64 hi, .slice none 0 0] 24)).heap.size = w.heap.size + 2 := by simp
  have HM := Lib.hid hM
  clear hM
  go_enter Tryd.func43, Tryd.ntmps43
  go_wp2
  obtain ⟨W0, hW0⟩ : ∃ W0, ((w.alloc (.cells #[.int .i64 0, .int .i64 0, .slice none 0 0] 24)).alloc (.cells #[.int .i64 lo, .int .i64 hi, .slice none 0 0] 24)) = W0 := ⟨_, rfl⟩
  rw [hW0] at r1 r2 hb0 hsz ⊢
  clear hW0
  have HR1 := Lib.hid r1
  have HR2 := Lib.hid r2
  have HB0 := Lib.hid hb0
  have HSZ := Lib.hid hsz
  clear r1 r2 hb0 hsz
  go_loopw [8] (fun i wr => ∃ (j : Nat) (hv : Value), i = .int .i64 (j : Int) ∧ j ≤ m ∧ Hid (Row wr w.heap.size #[.int .i64 0, .int .i64 0, .slice none 0 0] 24 ∧ Row wr (w.heap.size + 1) #[.int .i64 lo, .int .i64 hi, hv] 24 ∧ Strs.Own wr (w.heap.size + 2) hv ((l.take j).map (·.2)) ∧ Below w.heap.size w wr ∧ w.heap.size + 2 ≤ wr.heap.size)) (fun i _ => m - (intOf i).toNat)
  case atStart => exact ⟨0, _, rfl, by omega, Lib.hid ⟨HR1.out, HR2.out, by rw [List.take_zero]; exact Strs.Own.nil _ _, HB0.out, by have := HSZ.out; omega⟩⟩
  case round =>
    obtain ⟨j, hv, rfl, hj, hr⟩ := hrel
    by_cases hlt : j < m
    · obtain ⟨k1, k2, k3, k4, k5⟩ := hr.out
      obtain ⟨bd, X, rfl, _, hX, hXb, x0, x1, x2⟩ := (HM.out.below k4).at3 j hlt
      have hz : (l.take (j + 1)).map (·.2) = (l.take j).map (·.2) ++ [(l.getD j md0).2] := by
        rw [List.take_succ_eq_append_getElem (by omega), List.map_append]
        simp [List.getD_eq_getElem?_getD, hl, hlt]
      have hlen : ((l.take j).map (·.2)).length = j := by rw [List.length_map, List.length_take, hl]; omega
      have j0 : (0 : Int) ≤ (j : Int) := by omega
      have j1 : (j : Int) < (m : Int) := by omega
      have hXX : (some bd : Option Addr) = some bd := rfl
      have HZ := Lib.hid hz
      generalize (l.getD j md0).2 = y at *
      generalize (l.take j).map (·.2) = T at *
      have b1 : Below wr.heap.size wr (wr.alloc (boxS y)).drew := ((Below.refl _ wr).alloc (Nat.le_refl _) _).drew
      obtain ⟨g, c3, wA, a1, h1, h2, h3, h4⟩ := run_appS (y := y) (k3.below b1) (heap_alloc_new _ _) (Nat.le_trans k5 b1.size) (by omega)
      rw [hlen] at a1 h1
      have hbo : ∀ q, q < w.heap.size + 2 → some q ≠ hv.ownBlock := fun q hq e => by have := own_base k3 q e.symm; omega
      have q1 := ((k1.below b1 k1.lt).kept h2 (hbo _ (by omega)))
      have q2 := ((k2.below b1 k2.lt).kept h2 (hbo _ (by omega)))
      have hg2 : w.heap.size + 2 ≤ g := by
        rcases h3 with h3 | h3
        · exact own_base k3 g h3
        · have := b1.size; omega
      have HN : Hid (Row (wA.setCell ⟨w.heap.size + 1, 2, none⟩ (.slice (some ⟨g, 0, none⟩) (j + 1) c3)) w.heap.size #[.int .i64 0, .int .i64 0, .slice none 0 0] 24 ∧ Row (wA.setCell ⟨w.heap.size + 1, 2, none⟩ (.slice (some ⟨g, 0, none⟩) (j + 1) c3)) (w.heap.size + 1) #[.int .i64 lo, .int .i64 hi, .slice (some ⟨g, 0, none⟩) (j + 1) c3] 24 ∧ Strs.Own (wA.setCell ⟨w.heap.size + 1, 2, none⟩ (.slice (some ⟨g, 0, none⟩) (j + 1) c3)) (w.heap.size + 2) (.slice (some ⟨g, 0, none⟩) (j + 1) c3) ((l.take (j + 1)).map (·.2)) ∧ Below w.heap.size w (wA.setCell ⟨w.heap.size + 1, 2, none⟩ (.slice (some ⟨g, 0, none⟩) (j + 1) c3)) ∧ w.heap.size + 2 ≤ (wA.setCell ⟨w.heap.size + 1, 2, none⟩ (.slice (some ⟨g, 0, none⟩) (j + 1) c3)).heap.size) := Lib.hid (by
        refine ⟨q1.far _ (by show w.heap.size ≠ w.heap.size + 1; omega) _, q2.set 2 _, ?_, ((chain k4 b1).grown h2 (by have := b1.size; omega) (fun k e => by have := own_base k3 k e; omega)).setCell (by show w.heap.size ≤ w.heap.size + 1; omega) _, ?_⟩
        · rw [HZ.out]
          have : wA.ownsRow (w.heap.size + 2) 9 1 (.slice (some ⟨g, 0, none⟩) (j + 1) c3) (T ++ [y]).length (sv (T ++ [y])) := by rw [List.length_append, hlen]; exact h1
          exact ownsRow_setCell_other (a := ⟨w.heap.size + 1, 2, none⟩) this (by show some g ≠ some (w.heap.size + 1); intro e; cases e; omega) _
        · have := h2.size; have := b1.size; simp [World.setCell] at *; omega)
      have s0 := k2.cell 2
      have s1 := (k2.alloc (boxS y)).cell 2
      have s2 := q2.cell 2
      have s3 := q2.free 2
      clear hr k1 k2 k3 k4 k5 hXb h1 h2 h3 h4 hbo q1 q2 hg2 b1 hz
      go_wp2
      go_region
      all_goals go_wp2
      all_goals
        go_roundw
        case rel => exact ⟨j + 1, _, by go_num, by omega, HN⟩
        case measure => simp only [intOf]; omega
    · obtain rfl : j = m := by omega
      obtain ⟨k1, k2, k3, k4, k5⟩ := hr.out
      rw [List.take_of_length_le (by omega)] at k3
      obtain ⟨A9, c9, ev, _, _⟩ := k3.shape
      rw [List.length_map, hl] at ev
      subst ev
      have HF := Lib.hid (And.intro (Lst.own_down k3 (show w.heap.size ≤ w.heap.size + 2 by omega)) k4)
      have c10 := k1.cell 0
      have c11 := k1.cell 1
      have c12 := k1.cell 2
      have f10 := k1.free 0
      have f11 := k1.free 1
      have f12 := k1.free 2
      have c20 := k2.cell 0
      have c21 := k2.cell 1
      have c22 := k2.cell 2
      have HK3 := Lib.hid k3
      clear hr k1 k2 k3 k4 k5
      go_wp2
      refine bodyPost_ret (v := .agg #[.int .i64 lo, .int .i64 hi, .slice A9 j c9]) (by simp [results, Tryd.f43, go_sem, c10, c11, c12]) rfl ⟨_, rfl, ?_, ?_⟩
      · have hne : ∀ i : Nat, (Value.slice A9 j c9).ownBlock ≠ some (⟨w.heap.size, i, none⟩ : Addr).block := fun i e => by have := own_base HK3.out _ e; simp at this; omega
        exact ownsRow_setCell_other (ownsRow_setCell_other (ownsRow_setCell_other HF.out.1 (hne 0) _) (hne 1) _) (hne 2) _
      · exact ((HF.out.2.setCell (Nat.le_refl _) _).setCell (Nat.le_refl _) _).setCell (Nat.le_refl _) _
end Go.Proofs.YtahkpcbemnfllaaDoor.Comp
