/- open, frontier, begun, Start, Push, sameMade and the document's: their walks. -/
import Derived.Test.YtahkpcbemnfllaaDoorRBeh
import Derived.Test.YtahkpcbemnfllaaDoorBehW
set_option linter.unusedVariables false
set_option linter.unusedSimpArgs false
namespace Go.Proofs.YtahkpcbemnfllaaDoor.Comp
open Go.RowKit Go.Proofs.YtahkpcbemnfllaaDoor.Base Go.Proofs.YtahkpcbemnfllaaDoor.Mem Go.Proofs.YtahkpcbemnfllaaDoor.Strs Go.Proofs.YtahkpcbemnfllaaDoor.ShaDig Go.Proofs.YtahkpcbemnfllaaDoor.TreeHash Go.Proofs.YtahkpcbemnfllaaDoor.Cov
open Go.Proofs.YtahkpcbemnfllaaDoor.Lst (OwnA Adr OwnA.shape Kp own_below Lst ac ac_append ac_length infoAddr own_lt own_base own_shape own_kp)
attribute [-go_sem] Go.Builtin.append_

/-- What Start answers. -/
def startL (z : Int) : Int := if z < 0 ∨ 4611686018427387904 < z then 0 else z
def startE (z : Int) : Int := if z < 0 ∨ 4611686018427387904 < z then 10 else 0
def Started (z : Int) (w : World) (e : Ending) (w' : World) : Prop := e = .returned (.tuple #[fv (startL z) (startL z) none 0 0, .int .i64 (startE z)]) ∧ Below w.heap.size w w'
set_option maxHeartbeats 1000000 in
theorem mstart_calls (z : Int) (w : World) : Calls Tryd.prog 15 #[.int .i64 z] w (Started z w) := by
  have hb : ∀ v1 v2 v3, Below w.heap.size w ((((w.alloc (.cells #[.int .i64 0, .int .i64 0, .slice none 0 0] 24)).setCell ⟨w.heap.size, 0, none⟩ v1).setCell ⟨w.heap.size, 1, none⟩ v2).setCell ⟨w.heap.size, 2, none⟩ v3) := fun v1 v2 v3 => ((((Below.refl _ w).alloc (Nat.le_refl _) _).setCell (Nat.le_refl _) _).setCell (Nat.le_refl _) _).setCell (Nat.le_refl _) _
  have HB := Lib.hid hb
  clear hb
  by_cases h1 : z < 0
  · have e1 : Hid (startL z = 0 ∧ startE z = 10) := Lib.hid (by unfold startL startE; rw [if_pos (.inl h1), if_pos (.inl h1)]; exact ⟨rfl, rfl⟩)
    unfold Started
    rw [e1.out.1, e1.out.2]
    go_enter Tryd.func15, Tryd.ntmps15
    go_wp2
    refine bodyPost_ret (v := .tuple #[fv 0 0 none 0 0, .int .i64 10]) (by simp [results, Tryd.f15, go_sem]) rfl ⟨rfl, ?_⟩
    first | exact HB.out _ _ _ | exact (Below.refl _ w).alloc (Nat.le_refl _) _
  · have d1 : decide (z < 0) = false := decide_eq_false h1
    by_cases h2 : 4611686018427387904 < z
    · have e1 : Hid (startL z = 0 ∧ startE z = 10) := Lib.hid (by unfold startL startE; rw [if_pos (.inr h2), if_pos (.inr h2)]; exact ⟨rfl, rfl⟩)
      unfold Started
      rw [e1.out.1, e1.out.2]
      go_enter Tryd.func15, Tryd.ntmps15
      go_wp2
      refine bodyPost_ret (v := .tuple #[fv 0 0 none 0 0, .int .i64 10]) (by simp [results, Tryd.f15, go_sem]) rfl ⟨rfl, ?_⟩
      first | exact HB.out _ _ _ | exact (Below.refl _ w).alloc (Nat.le_refl _) _
    · have d2 : decide (4611686018427387904 < z) = false := decide_eq_false h2
      have e1 : Hid (startL z = z ∧ startE z = 0) := Lib.hid (by unfold startL startE; rw [if_neg (by omega), if_neg (by omega)]; exact ⟨rfl, rfl⟩)
      unfold Started
      rw [e1.out.1, e1.out.2]
      go_enter Tryd.func15, Tryd.ntmps15
      go_wp2
      refine bodyPost_ret (v := .tuple #[fv z z none 0 0, .int .i64 0]) (by simp [results, Tryd.f15, go_sem]) rfl ⟨rfl, ?_⟩
      first | exact HB.out _ _ _ | exact (Below.refl _ w).alloc (Nat.le_refl _) _
set_option maxHeartbeats 1000000 in
theorem rstart_calls (z : Int) (w : World) : Calls Tryd.prog 16 #[.int .i64 z] w (Started z w) := by
  have hb : ∀ v1 v2 v3, Below w.heap.size w ((((w.alloc (.cells #[.int .i64 0, .int .i64 0, .slice none 0 0] 24)).setCell ⟨w.heap.size, 0, none⟩ v1).setCell ⟨w.heap.size, 1, none⟩ v2).setCell ⟨w.heap.size, 2, none⟩ v3) := fun v1 v2 v3 => ((((Below.refl _ w).alloc (Nat.le_refl _) _).setCell (Nat.le_refl _) _).setCell (Nat.le_refl _) _).setCell (Nat.le_refl _) _
  have HB := Lib.hid hb
  clear hb
  by_cases h1 : z < 0
  · have e1 : Hid (startL z = 0 ∧ startE z = 10) := Lib.hid (by unfold startL startE; rw [if_pos (.inl h1), if_pos (.inl h1)]; exact ⟨rfl, rfl⟩)
    unfold Started
    rw [e1.out.1, e1.out.2]
    go_enter Tryd.func16, Tryd.ntmps16
    go_wp2
    refine bodyPost_ret (v := .tuple #[fv 0 0 none 0 0, .int .i64 10]) (by simp [results, Tryd.f16, go_sem]) rfl ⟨rfl, ?_⟩
    first | exact HB.out _ _ _ | exact (Below.refl _ w).alloc (Nat.le_refl _) _
  · have d1 : decide (z < 0) = false := decide_eq_false h1
    by_cases h2 : 4611686018427387904 < z
    · have e1 : Hid (startL z = 0 ∧ startE z = 10) := Lib.hid (by unfold startL startE; rw [if_pos (.inr h2), if_pos (.inr h2)]; exact ⟨rfl, rfl⟩)
      unfold Started
      rw [e1.out.1, e1.out.2]
      go_enter Tryd.func16, Tryd.ntmps16
      go_wp2
      refine bodyPost_ret (v := .tuple #[fv 0 0 none 0 0, .int .i64 10]) (by simp [results, Tryd.f16, go_sem]) rfl ⟨rfl, ?_⟩
      first | exact HB.out _ _ _ | exact (Below.refl _ w).alloc (Nat.le_refl _) _
    · have d2 : decide (4611686018427387904 < z) = false := decide_eq_false h2
      have e1 : Hid (startL z = z ∧ startE z = 0) := Lib.hid (by unfold startL startE; rw [if_neg (by omega), if_neg (by omega)]; exact ⟨rfl, rfl⟩)
      unfold Started
      rw [e1.out.1, e1.out.2]
      go_enter Tryd.func16, Tryd.ntmps16
      go_wp2
      refine bodyPost_ret (v := .tuple #[fv z z none 0 0, .int .i64 0]) (by simp [results, Tryd.f16, go_sem]) rfl ⟨rfl, ?_⟩
      first | exact HB.out _ _ _ | exact (Below.refl _ w).alloc (Nat.le_refl _) _
/-- Two lists of the same nodes are the same. -/
theorem sameMade_calls (A B : Option Addr) (n c d : Nat) (l : List Md) (w : World) (ha : Mds w A n l) (hb : Mds w B n l) (hn : n ≤ 1000000000000) :
    Calls Tryd.prog 21 #[.slice A n c, .slice B n d] w (fun e w' => e = .returned (.bool true) ∧ ∃ k, w' = w.drewN k) := by
  go_enter Tryd.func21, Tryd.ntmps21
  go_wp2
  go_loopw [5] (fun i wr => ∃ k : Nat, i = .int .i64 k ∧ k ≤ n ∧ Hid (∃ j, wr = w.drewN j)) (fun i _ => n - (intOf i).toNat)
  case atStart => exact ⟨0, rfl, by omega, Lib.hid ⟨0, rfl⟩⟩
  case round =>
    obtain ⟨k, rfl, hk, hw⟩ := hrel
    obtain ⟨j, rfl⟩ := hw.out
    clear hw
    by_cases hlt : k < n
    · obtain ⟨ad, X, rfl, _, hX, hXb, a1, a2, a3⟩ := ha.at3 k hlt
      obtain ⟨bd, Y, rfl, _, hY, hYb, b1, b2, b3⟩ := hb.at3 k hlt
      have hlt' : (k : Int) < (n : Int) := by omega
      clear ha hb hXb hYb
      generalize l.getD k md0 = z at *
      go_wp2
      go_quiet (fail)
      go_wp2
      go_roundw
      case rel => exact ⟨k + 1, by go_num, by omega, Lib.hid ⟨j + nq, rfl⟩⟩
      case measure => simp only [intOf]; omega
    · go_wp2
      go_ret
      exact ⟨rfl, j, rfl⟩
end Go.Proofs.YtahkpcbemnfllaaDoor.Comp
namespace Go.Proofs.YtahkpcbemnfllaaDoor.Comp
open Go.RowKit Go.Proofs.YtahkpcbemnfllaaDoor.Base Go.Proofs.YtahkpcbemnfllaaDoor.Mem Go.Proofs.YtahkpcbemnfllaaDoor.Strs Go.Proofs.YtahkpcbemnfllaaDoor.ShaDig Go.Proofs.YtahkpcbemnfllaaDoor.TreeHash Go.Proofs.YtahkpcbemnfllaaDoor.Cov
open Go.Proofs.YtahkpcbemnfllaaDoor.Lst (OwnA Adr OwnA.shape Kp own_below Lst ac ac_append ac_length infoAddr own_lt own_base own_shape own_kp)
attribute [-go_sem] Go.Builtin.append_

theorem zip_get (L : List (Nat × Nat)) (ss : List ByteArray) (j : Nat) (h1 : j < L.length) (h2 : j < ss.length) : (L.zip ss).take (j + 1) = (L.zip ss).take j ++ [(L.getD j (0, 0), ss.getD j ⟨#[]⟩)] := by
  rw [List.take_succ_eq_append_getElem (by rw [List.length_zip]; omega), List.getElem_zip]
  simp [List.getD_eq_getElem?_getD, h1, h2]
set_option maxRecDepth 100000 in
set_option maxHeartbeats 2000000 in
theorem open_calls (lo hi : Int) (A : Option Addr) (n c : Nat) (ss : List ByteArray) (w : World) (hS : Strs w A n ss) (hn : (covL lo hi).length = n) :
    Calls Tryd.prog 41 #[fv lo hi A n c] w (fun e w' => ∃ v, e = .returned v ∧ OwnM w' w.heap.size v ((covL lo hi).zip ss) ∧ Below w.heap.size w w') := by
  have hcl := covL_len lo hi
  have hl := hS.len
  have hb0 : Below w.heap.size w (w.alloc (.cells #[.int .i64 lo, .int .i64 hi, .slice A n c] 24)) := (Below.refl _ w).alloc (Nat.le_refl _) _
  have r0 := Row.new w #[.int .i64 lo, .int .i64 hi, .slice A n c] 24
  have HRC := Lib.hid (rcover_calls lo hi (w.alloc (.cells #[.int .i64 lo, .int .i64 hi, .slice A n c] 24)))
  have HB0 := Lib.hid hb0
  have HR0 := Lib.hid r0
  have HS := Lib.hid hS
  have HL := Lib.hid hl
  have c0 := r0.cell 0
  have c1 := r0.cell 1
  clear hS hb0 r0 hl
  generalize covL lo hi = L at *
  generalize covE lo hi = z at *
  go_enter Tryd.func41, Tryd.ntmps41
  go_wp2_with fail
  refine HRC.out.mono ?_
  rintro e w1 ⟨v1, rfl, o1, b1⟩
  obtain ⟨B, d, rfl, hd, ha, _⟩ := OwnA.shape o1
  have HB1 := Lib.hid (HB0.out.trans (b1.mono HB0.out.size))
  have HR1 := Lib.hid (HR0.out.below b1 HR0.out.lt)
  have HA := Lib.hid ha
  have HS1 := Lib.hid (HS.out.below HB1.out)
  clear o1 b1 ha c0 c1
  subst hn
  go_wp2
  go_loopw [5, 6] (fun s i wr => ∃ (v : Value) (j : Nat), v = s ∧ i = .int .i64 (j : Int) ∧ j ≤ L.length ∧ Hid (OwnM wr w1.heap.size v ((L.zip ss).take j)) ∧ Hid (Below w1.heap.size w1 wr)) (fun _ i _ => L.length - (intOf i).toNat)
  case atStart => exact ⟨_, 0, rfl, rfl, by omega, Lib.hid (by rw [List.take_zero]; exact World.ownsRow_nil _ _ _ _), Lib.hid (Below.refl _ _)⟩
  case round =>
    obtain ⟨v, j, rfl, rfl, hj, ho, hb⟩ := hrel
    by_cases hlt : j < L.length
    · obtain ⟨ad, rfl, _, hcell⟩ := (HS1.out.below hb.out).at_ j hlt
      obtain ⟨bd, X, rfl, _, hX, hXb, x0, x1⟩ := (HA.out.below hb.out).at2 j hlt
      have c2 := (HR1.out.below hb.out HR1.out.lt).cell 2
      have hz : Hid ((L.zip ss).take (j + 1) = (L.zip ss).take j ++ [(L.getD j (0, 0), ss.getD j ⟨#[]⟩)]) := Lib.hid (zip_get L ss j hlt (by rw [HL.out]; exact hlt))
      have hlen : ((L.zip ss).take j).length = j := by rw [List.length_take, List.length_zip, HL.out]; omega
      have j0 : (0 : Int) ≤ (j : Int) := by omega
      have j1 : (j : Int) < (L.length : Int) := by omega
      have ho' := ho.out
      generalize (L.zip ss).take j = T at *
      generalize L.getD j (0, 0) = y1 at *
      generalize ss.getD j ⟨#[]⟩ = y2 at *
      obtain ⟨g, c3, wA, a1, h1, h2, h3, h4⟩ := run_appM (y := (y1, y2)) (own_below ho' (((Below.refl _ wr).alloc (Nat.le_refl _) (boxM (y1, y2))).drew)) (heap_alloc_new _ _) (by simp; have := hb.out.size; omega) (by omega)
      rw [hlen] at a1
      have HO2 : Hid (OwnM wA w1.heap.size (.slice (some ⟨g, 0, none⟩) (j + 1) c3) ((L.zip ss).take (j + 1))) := Lib.hid (by
        rw [hz.out]; unfold OwnM; rw [List.length_append, hlen]; rw [hlen] at h1; exact h1)
      have HB2 : Hid (Below w1.heap.size w1 wA) := Lib.hid ((hb.out.alloc hb.out.size _).drew.grown h2 (by simp; have := hb.out.size; omega) (fun k e => own_base ho' k e))
      clear ho' h1 h2 h3 h4 hXb
      go_wp2
      go_region
      all_goals go_wp2
      all_goals
        go_roundw
        case rel => exact ⟨_, j + 1, rfl, by go_num, by omega, HO2, HB2⟩
        case measure => simp only [intOf]; omega
    · obtain rfl : j = L.length := by omega
      have ho' := ho.out
      rw [List.take_of_length_le (by rw [List.length_zip]; omega)] at ho'
      have HF := Lib.hid (And.intro (Lst.own_down ho' (show w.heap.size ≤ w1.heap.size from HB1.out.size)) (chain HB1.out hb.out))
      clear ho ho'
      go_wp2
      go_ret
      exact ⟨_, rfl, HF.out.1, HF.out.2⟩
abbrev boxS (y : ByteArray) : Obj := .cells #[.string y] 9
set_option maxRecDepth 100000 in
set_option maxHeartbeats 2000000 in
theorem frontier_calls (lo hi : Int) (B : Option Addr) (m c : Nat) (l : List Md) (w : World) (hM : Mds w B m l) (hm : m ≤ 4000) :
    Calls Tryd.prog 43 #[.int .i64 lo, .int .i64 hi, .slice B m c] w (fun e w' => ∃ v, e = .returned (.agg #[.int .i64 lo, .int .i64 hi, v]) ∧ Strs.Own w' w.heap.size v (l.map (·.2)) ∧ Below w.heap.size w w') := by
  have hl := hM.1
  have r1 := (Row.new w #[.int .i64 0, .int .i64 0, .slice none 0 0] 24).alloc (.cells #[.int .i64 lo, .int .i64 hi, .slice none 0 0] 24)
  have r2 := Row.new (w.alloc (.cells #[.int .i64 0, .int .i64 0, .slice none 0 0] 24)) #[.int .i64 lo, .int .i64 hi, .slice none 0 0] 24
  rw [World.size_alloc] at r2
  have hb0 : Below w.heap.size w ((w.alloc (.cells #[.int .i64 0, .int .i64 0, .slice none 0 0] 24)).alloc (.cells #[.int .i64 lo, .int .i64 hi, .slice none 0 0] 24)) := ((Below.refl _ w).alloc (Nat.le_refl _) _).alloc (by simp) _
  have hsz : ((w.alloc (.cells #[.int .i64 0, .int .i64 0, .slice none 0 0] 24)).alloc (.cells #[.int .i64 lo, .int .i64 hi, .slice none 0 0] 24)).heap.size = w.heap.size + 2 := by simp
  have HM := Lib.hid hM
  clear hM
  go_enter Tryd.func43, Tryd.ntmps43
  go_wp2
  obtain ⟨W0, hW0⟩ : ∃ W0, ((w.alloc (.cells #[.int .i64 0, .int .i64 0, .slice none 0 0] 24)).alloc (.cells #[.int .i64 lo, .int .i64 hi, .slice none 0 0] 24)) = W0 := ⟨_, rfl⟩
  rw [hW0] at r1 r2 hb0 hsz ⊢
  clear hW0
  have HR1 := Lib.hid r1
  have HR2 := Lib.hid r2
  have HB0 := Lib.hid hb0
  have HSZ := Lib.hid hsz
  clear r1 r2 hb0 hsz
  go_loopw [8] (fun i wr => ∃ (j : Nat) (hv : Value), i = .int .i64 (j : Int) ∧ j ≤ m ∧ Hid (Row wr w.heap.size #[.int .i64 0, .int .i64 0, .slice none 0 0] 24 ∧ Row wr (w.heap.size + 1) #[.int .i64 lo, .int .i64 hi, hv] 24 ∧ Strs.Own wr (w.heap.size + 2) hv ((l.take j).map (·.2)) ∧ Below w.heap.size w wr ∧ w.heap.size + 2 ≤ wr.heap.size)) (fun i _ => m - (intOf i).toNat)
  case atStart => exact ⟨0, _, rfl, by omega, Lib.hid ⟨HR1.out, HR2.out, by rw [List.take_zero]; exact Strs.Own.nil _ _, HB0.out, by have := HSZ.out; omega⟩⟩
  case round =>
    obtain ⟨j, hv, rfl, hj, hr⟩ := hrel
    by_cases hlt : j < m
    · obtain ⟨k1, k2, k3, k4, k5⟩ := hr.out
      obtain ⟨bd, X, rfl, _, hX, hXb, x0, x1, x2⟩ := (HM.out.below k4).at3 j hlt
      have hz : (l.take (j + 1)).map (·.2) = (l.take j).map (·.2) ++ [(l.getD j md0).2] := by
        rw [List.take_succ_eq_append_getElem (by omega), List.map_append]
        simp [List.getD_eq_getElem?_getD, hl, hlt]
      have hlen : ((l.take j).map (·.2)).length = j := by rw [List.length_map, List.length_take, hl]; omega
      have j0 : (0 : Int) ≤ (j : Int) := by omega
      have j1 : (j : Int) < (m : Int) := by omega
      have hXX : (some bd : Option Addr) = some bd := rfl
      have HZ := Lib.hid hz
      generalize (l.getD j md0).2 = y at *
      generalize (l.take j).map (·.2) = T at *
      have b1 : Below wr.heap.size wr (wr.alloc (boxS y)).drew := ((Below.refl _ wr).alloc (Nat.le_refl _) _).drew
      obtain ⟨g, c3, wA, a1, h1, h2, h3, h4⟩ := run_appS (y := y) (k3.below b1) (heap_alloc_new _ _) (Nat.le_trans k5 b1.size) (by omega)
      rw [hlen] at a1 h1
      have hbo : ∀ q, q < w.heap.size + 2 → some q ≠ hv.ownBlock := fun q hq e => by have := own_base k3 q e.symm; omega
      have q1 := ((k1.below b1 k1.lt).kept h2 (hbo _ (by omega)))
      have q2 := ((k2.below b1 k2.lt).kept h2 (hbo _ (by omega)))
      have hg2 : w.heap.size + 2 ≤ g := by
        rcases h3 with h3 | h3
        · exact own_base k3 g h3
        · have := b1.size; omega
      have HN : Hid (Row (wA.setCell ⟨w.heap.size + 1, 2, none⟩ (.slice (some ⟨g, 0, none⟩) (j + 1) c3)) w.heap.size #[.int .i64 0, .int .i64 0, .slice none 0 0] 24 ∧ Row (wA.setCell ⟨w.heap.size + 1, 2, none⟩ (.slice (some ⟨g, 0, none⟩) (j + 1) c3)) (w.heap.size + 1) #[.int .i64 lo, .int .i64 hi, .slice (some ⟨g, 0, none⟩) (j + 1) c3] 24 ∧ Strs.Own (wA.setCell ⟨w.heap.size + 1, 2, none⟩ (.slice (some ⟨g, 0, none⟩) (j + 1) c3)) (w.heap.size + 2) (.slice (some ⟨g, 0, none⟩) (j + 1) c3) ((l.take (j + 1)).map (·.2)) ∧ Below w.heap.size w (wA.setCell ⟨w.heap.size + 1, 2, none⟩ (.slice (some ⟨g, 0, none⟩) (j + 1) c3)) ∧ w.heap.size + 2 ≤ (wA.setCell ⟨w.heap.size + 1, 2, none⟩ (.slice (some ⟨g, 0, none⟩) (j + 1) c3)).heap.size) := Lib.hid (by
        refine ⟨q1.far _ (by show w.heap.size ≠ w.heap.size + 1; omega) _, q2.set 2 _, ?_, ((chain k4 b1).grown h2 (by have := b1.size; omega) (fun k e => by have := own_base k3 k e; omega)).setCell (by show w.heap.size ≤ w.heap.size + 1; omega) _, ?_⟩
        · rw [HZ.out]
          have : wA.ownsRow (w.heap.size + 2) 9 1 (.slice (some ⟨g, 0, none⟩) (j + 1) c3) (T ++ [y]).length (sv (T ++ [y])) := by rw [List.length_append, hlen]; exact h1
          exact ownsRow_setCell_other (a := ⟨w.heap.size + 1, 2, none⟩) this (by show some g ≠ some (w.heap.size + 1); intro e; cases e; omega) _
        · have := h2.size; have := b1.size; simp [World.setCell] at *; omega)
      have s0 := k2.cell 2
      have s1 := (k2.alloc (boxS y)).cell 2
      have s2 := q2.cell 2
      have s3 := q2.free 2
      clear hr k1 k2 k3 k4 k5 hXb h1 h2 h3 h4 hbo q1 q2 hg2 b1 hz
      go_wp2
      go_region
      all_goals go_wp2
      all_goals
        go_roundw
        case rel => exact ⟨j + 1, _, by go_num, by omega, HN⟩
        case measure => simp only [intOf]; omega
    · obtain rfl : j = m := by omega
      obtain ⟨k1, k2, k3, k4, k5⟩ := hr.out
      rw [List.take_of_length_le (by omega)] at k3
      obtain ⟨A9, c9, ev, _, _⟩ := k3.shape
      rw [List.length_map, hl] at ev
      subst ev
      have HF := Lib.hid (And.intro (Lst.own_down k3 (show w.heap.size ≤ w.heap.size + 2 by omega)) k4)
      have c10 := k1.cell 0
      have c11 := k1.cell 1
      have c12 := k1.cell 2
      have f10 := k1.free 0
      have f11 := k1.free 1
      have f12 := k1.free 2
      have c20 := k2.cell 0
      have c21 := k2.cell 1
      have c22 := k2.cell 2
      have HK3 := Lib.hid k3
      clear hr k1 k2 k3 k4 k5
      go_wp2
      refine bodyPost_ret (v := .agg #[.int .i64 lo, .int .i64 hi, .slice A9 j c9]) (by simp [results, Tryd.f43, go_sem, c10, c11, c12]) rfl ⟨_, rfl, ?_, ?_⟩
      · have hne : ∀ i : Nat, (Value.slice A9 j c9).ownBlock ≠ some (⟨w.heap.size, i, none⟩ : Addr).block := fun i e => by have := own_base HK3.out _ e; simp at this; omega
        exact ownsRow_setCell_other (ownsRow_setCell_other (ownsRow_setCell_other HF.out.1 (hne 0) _) (hne 1) _) (hne 2) _
      · exact ((HF.out.2.setCell (Nat.le_refl _) _).setCell (Nat.le_refl _) _).setCell (Nat.le_refl _) _
end Go.Proofs.YtahkpcbemnfllaaDoor.Comp
namespace Go.Proofs.YtahkpcbemnfllaaDoor.Comp
open Go.RowKit Go.Proofs.YtahkpcbemnfllaaDoor.Base Go.Proofs.YtahkpcbemnfllaaDoor.Mem Go.Proofs.YtahkpcbemnfllaaDoor.Strs Go.Proofs.YtahkpcbemnfllaaDoor.ShaDig Go.Proofs.YtahkpcbemnfllaaDoor.TreeHash Go.Proofs.YtahkpcbemnfllaaDoor.Cov
open Go.Proofs.YtahkpcbemnfllaaDoor.Lst (OwnA Adr OwnA.shape Kp own_below Lst ac ac_append ac_length infoAddr own_lt own_base own_shape own_kp)

theorem zip_fst (L : List (Nat × Nat)) (ss : List ByteArray) (h : L.length = ss.length) : (L.zip ss).map (·.1) = L := List.map_fst_zip (by omega)
theorem zip_snd (L : List (Nat × Nat)) (ss : List ByteArray) (h : L.length = ss.length) : (L.zip ss).map (·.2) = ss := List.map_snd_zip (by omega)
set_option maxRecDepth 100000 in
set_option maxHeartbeats 2000000 in
theorem begun_calls (w0 : World) (F q : Nat) (k lo hi : Int) (A : Option Addr) (n c : Nat) (ss : List ByteArray) (w : World) (hb : Below w0.heap.size w0 w) (hq : w0.heap.size ≤ q) (rq : Row w q #[.slice none 0 0] 40) (hS : Strs w A n ss) (hn : (covL lo hi).length = n) :
    Calls Tryd.prog 37 #[.int .i64 k, fv lo hi A n c, clo F q] w (fun e w' => ∃ p hv av, e = .returned (.pointer (some ⟨p, 0, none⟩)) ∧ RunS w0 F p q lo (wid k) hi ((covL lo hi).zip ss) [] hv av (.slice none 0 0) w' ∧ Below w.heap.size w w') := by
  have hcl := covL_len lo hi
  have hl := hS.len
  have hb0 : Below w.heap.size w (w.alloc (.cells #[.int .i64 lo, .int .i64 hi, .slice A n c] 24)) := (Below.refl _ w).alloc (Nat.le_refl _) _
  have r0 := Row.new w #[.int .i64 lo, .int .i64 hi, .slice A n c] 24
  have HRC := Lib.hid (mcover_calls lo hi (w.alloc (.cells #[.int .i64 lo, .int .i64 hi, .slice A n c] 24)))
  have HB0 := Lib.hid hb0
  have HR0 := Lib.hid r0
  have HS := Lib.hid hS
  have HL := Lib.hid hl
  have HBW := Lib.hid hb
  have HRQ := Lib.hid rq
  have HQ := Lib.hid hq
  have HW := Lib.hid (fun W => width_calls k W)
  have c0 := r0.cell 0
  have c1 := r0.cell 1
  have hfst := Lib.hid (zip_fst (covL lo hi) ss (by omega))
  have hsnd := Lib.hid (zip_snd (covL lo hi) ss (by omega))
  clear hS hb0 r0 hl hb rq hq
  generalize covL lo hi = L at *
  generalize covE lo hi = z at *
  go_enter Tryd.func37, Tryd.ntmps37
  go_wp2_with fail
  refine HRC.out.mono ?_
  rintro e w1 ⟨v1, rfl, o1, b1⟩
  have HB1 := Lib.hid (HB0.out.trans (b1.mono HB0.out.size))
  have HB1' := Lib.hid b1
  have r1 := HR0.out.below b1 HR0.out.lt
  have HR1 := Lib.hid r1
  have HO := Lib.hid o1
  obtain ⟨B, d, rfl, _, _, _⟩ := OwnA.shape o1
  have x0 := r1.cell 0
  have x1 := r1.cell 1
  have x2 := r1.cell 2
  clear o1 b1 c0 c1 r1
  go_wp2_with fail
  go_region_held3 (fun W => W.cell? ⟨w.heap.size, 0, none⟩ = some (.int .i64 lo) ∧ W.cell? ⟨w.heap.size, 1, none⟩ = some (.int .i64 hi) ∧ W.cell? ⟨w.heap.size, 2, none⟩ = some (.slice A n c)) (go_keep)
    ((go_at_call 34; (with_reducible refine (HW.out _).mono ?_); rintro e _ ⟨rfl, rfl⟩))
  obtain ⟨W3, hW3⟩ : ∃ W3, (w1.alloc (.cells #[.int .i64 lo, .int .i64 hi, .slice A n c, .int .i64 (wid k : Int), .slice B n d, clo F q] 76)).drew = W3 := ⟨_, rfl⟩
  have b3 : Below w1.heap.size w1 W3 := hW3 ▸ ((Below.refl _ w1).alloc (Nat.le_refl _) _).drew
  have rp : Row W3 w1.heap.size #[.int .i64 lo, .int .i64 hi, .slice A n c, .int .i64 (wid k : Int), .slice B n d, clo F q] 76 := hW3 ▸ Row.new _ _ _
  rw [hW3]
  clear hW3
  have r4 := HR1.out.below b3 HR1.out.lt
  have y2 := r4.cell 2
  have HRP := Lib.hid rp
  have HB3 := Lib.hid b3
  have hS3 := HS.out.below (chain HB1.out b3)
  clear x0 x1 x2 r4 rp b3
  subst hn
  go_wp2_with (at_builtin; refine wpList_appRow (w0 := W3) W3.heap.size rfl (.const (.slice none 0 0)) (.tmp 27) rfl _ [] ss A L.length c rfl rfl (Strs.Own.nil _ _) hS3 (Below.refl _ _) (Nat.le_refl _) (by simp; omega) ?_; intro v4 w4 ho4 hb4 _ _; rw [List.nil_append] at ho4; have HO4 := Lib.hid ho4; have HB4 := Lib.hid hb4; obtain ⟨A4, d4, e4, _, _⟩ := ho4.shape; subst e4; have rp4 := HRP.out.below hb4 HRP.out.lt; have s2 := rp4.cell 2; have f2 := rp4.free 2; have HRP4 := Lib.hid rp4; clear ho4 hb4 rp4)
  have hpw := HRP.out.lt
  have hB1s := HB1.out.size
  have hqlt := HRQ.out.lt
  have hqs := HQ.out
  have hw0 := HBW.out.size
  have hb4s := HB4.out.size
  have hav := own_lt HO.out
  have hab := own_base HO.out
  have hhv := own_base HO4.out
  rw [World.size_alloc] at hab
  have hoffh : ∀ r, r < W3.heap.size → Off r (.slice A4 ss.length d4) := fun r hr e => by have := hhv r e; omega
  have ebel : Below w.heap.size w w4 := chain (chain HB1.out HB3.out) HB4.out
  go_ret
  refine ⟨w1.heap.size, .slice A4 ss.length d4, .slice B L.length d, rfl, ?_, ebel.setCell (by show w.heap.size ≤ w1.heap.size; omega) _⟩
  have oh : Strs.Own w4 w0.heap.size (.slice A4 ss.length d4) ss := Lst.own_down HO4.out (by omega)
  have oa : OwnA w4 w0.heap.size (.slice B L.length d) L := Lst.own_down (own_below (own_below HO.out HB3.out) HB4.out) (by simp; omega)
  have rq4 : Row w4 q #[.slice none 0 0] 40 := HRQ.out.below ebel hqlt
  have nh : Off w1.heap.size (.slice A4 ss.length d4) := hoffh _ hpw
  have na : Off w1.heap.size (.slice B L.length d) := fun e => by have := hav _ e; omega
  exact {
    bel := (chain HBW.out ebel).setCell (by show w0.heap.size ≤ w1.heap.size; omega) _
    bp := by omega
    bq := hqs
    pq := by omega
    row := HRP4.out.set 2 _
    box := rq4.far _ (by show q ≠ w1.heap.size; omega) _
    oh := by rw [hsnd.out]; exact ownsRow_setCell_other (a := ⟨w1.heap.size, 2, none⟩) oh nh _
    oa := by rw [hfst.out]; exact ownsRow_setCell_other (a := ⟨w1.heap.size, 2, none⟩) oa na _
    om := World.ownsRow_nil _ _ _ _
    hp := nh
    hq := hoffh q (by omega)
    ap := na
    aq := fun e => by have := hab q e; omega
    mp := fun e => by simp [Value.ownBlock] at e
    mq := fun e => by simp [Value.ownBlock] at e
    ha := fun v e1 e2 => by have := hhv v e1; have := hav v e2; omega
    hm := fun v e1 e2 => by simp [Value.ownBlock] at e2
    am := fun v e1 e2 => by simp [Value.ownBlock] at e2 }
/-! ### Push -/
def pushE (k lo hi : Int) (ss : List ByteArray) (h : ByteArray) : Int := if chk k lo hi ss ≠ 0 then chk k lo hi ss else if h.size ≠ wid k then 72 else if hi = 4611686018427387904 then 10 else 0
def pushN (k lo hi : Int) (ss : List ByteArray) (h : ByteArray) : List Md × List Md := if pushE k lo hi ss h ≠ 0 then ([], []) else beh k ((covL lo hi).zip ss) ((0, hi.toNat), h)
def pushLo (k lo hi : Int) (ss : List ByteArray) (h : ByteArray) : Int := if pushE k lo hi ss h ≠ 0 then 0 else lo
def pushHi (k lo hi : Int) (ss : List ByteArray) (h : ByteArray) : Int := if pushE k lo hi ss h ≠ 0 then 0 else hi + 1
/-- A frontier, the nodes that became whole, and the error: in new memory. -/
def Ans (lo hi z : Int) (hs : List ByteArray) (md : List Md) (w : World) (e : Ending) (w' : World) : Prop :=
  ∃ vh vm, e = .returned (.tuple #[.agg #[.int .i64 lo, .int .i64 hi, vh], vm, .int .i64 z]) ∧ Strs.Own w' w.heap.size vh hs ∧ OwnM w' w.heap.size vm md ∧ Apart vh vm ∧ Below w.heap.size w w'
theorem ans_none (z : Int) {w w' : World} (b : Below w.heap.size w w') : Ans 0 0 z [] [] w (.returned (.tuple #[fv 0 0 none 0 0, .slice none 0 0, .int .i64 z])) w' :=
  ⟨_, _, rfl, Strs.Own.nil _ _, World.ownsRow_nil _ _ _ _, fun k e => by simp [Value.ownBlock] at e, b⟩
theorem chk_ok {k lo hi : Int} {ss : List ByteArray} (h : chk k lo hi ss = 0) : covE lo hi = 0 ∧ (covL lo hi).length = ss.length ∧ (∀ s ∈ ss, s.size = wid k) ∧ 0 ≤ lo ∧ lo ≤ hi ∧ hi ≤ 4611686018427387904 := by
  have hf := chk_fit h
  unfold chk at h
  split at h
  · omega
  · rename_i h1
    split at h
    · omega
    · rename_i h2
      have h1' : covE lo hi = 0 := by omega
      refine ⟨h1', by omega, hf, ?_⟩
      unfold covE at h1'
      split at h1'
      · omega
      · rename_i h3; omega
theorem tiles_ok {p hi : Nat} {l : List (Nat × Nat)} (h : Tiles p hi l) (hh : hi ≤ 4611686018427387904) : ∀ y ∈ l, y.1 ≤ 62 ∧ (y.2 + 1) * 2 ^ y.1 ≤ 4611686018427387904 := by
  induction h with
  | done => intro y hy; simp at hy
  | @step p hi k j l e hk ht ih =>
    intro y hy
    have := ht.le
    rcases List.mem_cons.1 hy with rfl | hy
    · refine ⟨hk, ?_⟩
      show (j + 1) * 2 ^ k ≤ _
      rw [Nat.add_mul, Nat.one_mul, ← e]
      omega
    · exact ih hh y hy
theorem zip_ok {k lo hi : Int} {ss : List ByteArray} (h : chk k lo hi ss = 0) : ∀ y ∈ (covL lo hi).zip ss, okM y := by
  obtain ⟨h1, h2, h3, h4, h5, h6⟩ := chk_ok h
  intro y hy
  obtain ⟨⟨a, b⟩, s⟩ := y
  obtain ⟨m1, m2⟩ := List.of_mem_zip hy
  obtain ⟨A, B, rfl, rfl, h7, h8, h9, _⟩ := cov_yes (lo := lo) (hi := hi) (by omega)
  rw [h9] at m1
  have := tiles_ok (greedy_tiles h7 h8) h8 _ m1
  have hw := wid_le k
  exact ⟨this.1, this.2, by have := h3 _ m2; show s.size ≤ 32; omega⟩
theorem pushE_of {lo hi : Int} {k : Int} {ss : List ByteArray} {h : ByteArray} (hz : pushE k lo hi ss h ≠ 0) : pushN k lo hi ss h = ([], []) ∧ pushLo k lo hi ss h = 0 ∧ pushHi k lo hi ss h = 0 := by
  unfold pushN pushLo pushHi
  rw [if_pos hz, if_pos hz, if_pos hz]; exact ⟨rfl, rfl, rfl⟩
def PushA (k lo hi : Int) (ss : List ByteArray) (h : ByteArray) : World → Ending → World → Prop := Ans (pushLo k lo hi ss h) (pushHi k lo hi ss h) (pushE k lo hi ss h) ((pushN k lo hi ss h).1.map (·.2)) (pushN k lo hi ss h).2
theorem pushA_bad {k lo hi z : Int} {ss : List ByteArray} {h : ByteArray} {w w' : World} (he : pushE k lo hi ss h = z) (hz : z ≠ 0) (b : Below w.heap.size w w') : PushA k lo hi ss h w (.returned (.tuple #[fv 0 0 none 0 0, .slice none 0 0, .int .i64 z])) w' := by
  obtain ⟨h1, h2, h3⟩ := pushE_of (k := k) (lo := lo) (hi := hi) (ss := ss) (h := h) (by rw [he]; exact hz)
  unfold PushA
  rw [h1, h2, h3, he]
  exact ans_none z b
set_option maxRecDepth 100000 in
set_option maxHeartbeats 4000000 in
theorem mpush_calls (k lo hi : Int) (A : Option Addr) (n c : Nat) (ss : List ByteArray) (h : ByteArray) (w : World) (hS : Strs w A n ss) (hnc : n ≤ c) (hn : n ≤ 8796093022208) (hT : Tab w) :
    Calls Tryd.prog 19 #[.int .i64 k, fv lo hi A n c, .string h] w (PushA k lo hi ss h w) := by
  have r1 := (Row.new w #[.int .i64 lo, .int .i64 hi, .slice A n c] 24).alloc (.cells #[.int .i64 0, .int .i64 0, .slice none 0 0] 24)
  have r2 := Row.new (w.alloc (.cells #[.int .i64 lo, .int .i64 hi, .slice A n c] 24)) #[.int .i64 0, .int .i64 0, .slice none 0 0] 24
  rw [World.size_alloc] at r2
  have hb0 : Below w.heap.size w ((w.alloc (.cells #[.int .i64 lo, .int .i64 hi, .slice A n c] 24)).alloc (.cells #[.int .i64 0, .int .i64 0, .slice none 0 0] 24)) := ((Below.refl _ w).alloc (Nat.le_refl _) _).alloc (by simp) _
  have HK := Lib.hid (check_calls k lo hi A n c ss _ (hS.below hb0) hn)
  have HR1 := Lib.hid r1
  have HR2 := Lib.hid r2
  have HB0 := Lib.hid hb0
  have HS := Lib.hid hS
  have HT := Lib.hid hT
  have HL := Lib.hid hS.len
  have c10 := r1.cell 0
  have c11 := r1.cell 1
  have c12 := r1.cell 2
  have HW := Lib.hid (fun W => width_calls k W)
  clear r1 r2 hb0 hS hT
  by_cases hz : chk k lo hi ss = 0
  · have HCK := Lib.hid hz
    rw [hz] at HK
    clear hz
    by_cases hsz : h.size = wid k
    · have hs1 : ((h.size : Int) == (wid k : Int)) = true := by rw [beq_iff_eq]; omega
      have hs2 : ((h.size : Int) != (wid k : Int)) = false := by rw [bne, hs1]; rfl
      have HSZ := Lib.hid hsz
      clear hsz
      by_cases hmx : hi = 4611686018427387904
      · have HF : Hid (pushE k lo hi ss h = 10) := Lib.hid (by unfold pushE; rw [HCK.out, if_neg (by simp), if_neg (by simp [HSZ.out]), if_pos hmx])
        subst hmx
        go_enter Tryd.func19, Tryd.ntmps19
        go_wp2_with fail
        refine HK.out.mono ?_
        rintro e w1 ⟨rfl, b1⟩
        have HB1 := Lib.hid (chain HB0.out b1)
        have HQ1 := Lib.hid (HR1.out.below b1 HR1.out.lt)
        have q2 := HR2.out.below b1 HR2.out.lt
        have HQ2 := Lib.hid q2
        have y0 := HQ1.out.cell 0
        have y1 := HQ1.out.cell 1
        have y2 := HQ1.out.cell 2
        have x0 := q2.cell 0
        have x1 := q2.cell 1
        have x2 := q2.cell 2
        have f0 := q2.free 0
        have f1 := q2.free 1
        have f2 := q2.free 2
        clear b1 q2 c10 c11 c12
        go_wp2_with (go_at_call 34; ((with_reducible refine (HW.out _).mono ?_); rintro e w' ⟨rfl, rfl⟩))
        refine bodyPost_ret (v := .tuple #[fv 0 0 none 0 0, .slice none 0 0, .int .i64 10]) (by simp [results, Tryd.f19, go_sem, x0, x1, x2]) rfl (pushA_bad HF.out (by decide) ?_)
        exact ((HB1.out.setCell (by show w.heap.size ≤ w.heap.size + 1; omega) _).setCell (by show w.heap.size ≤ w.heap.size + 1; omega) _).setCell (by show w.heap.size ≤ w.heap.size + 1; omega) _
      · obtain ⟨e1, e2, e3, e4, e5, e6⟩ := chk_ok HCK.out
        obtain ⟨H, rfl⟩ : ∃ H : Nat, hi = H := ⟨hi.toNat, by omega⟩
        have hH : H < 4611686018427387904 := by omega
        have hm1 : ((H : Int) == 4611686018427387904) = false := by rw [beq_eq_false_iff_ne]; exact hmx
        have HF : Hid (pushE k lo (H : Int) ss h = 0) := Lib.hid (by unfold pushE; rw [HCK.out, if_neg (by simp), if_neg (by simp [HSZ.out]), if_neg hmx])
        have HCL := Lib.hid (covL_len lo (H : Int))
        have hcn : Hid ((covL lo (H : Int)).length = n) := Lib.hid (by rw [e2, HL.out])
        have HZO := Lib.hid (zip_ok HCK.out)
        have HWL := Lib.hid (wid_le k)
        clear e1 e2 e3 e4 e5 e6
        go_enter Tryd.func19, Tryd.ntmps19
        go_wp2_with fail
        refine HK.out.mono ?_
        rintro e w1 ⟨rfl, b1⟩
        have HB1 := Lib.hid (chain HB0.out b1)
        have HQ1 := Lib.hid (HR1.out.below b1 HR1.out.lt)
        have q2 := HR2.out.below b1 HR2.out.lt
        have HQ2 := Lib.hid q2
        have y0 := HQ1.out.cell 0
        have y1 := HQ1.out.cell 1
        have y2 := HQ1.out.cell 2
        clear b1 q2 c10 c11 c12
        have bq : Below w1.heap.size w1 (w1.alloc (.cells #[.slice none 0 0] 40)) := (Below.refl _ w1).alloc (Nat.le_refl _) _
        have rq := Row.new w1 #[.slice none 0 0] 40
        have HBG := Lib.hid (begun_calls w1 38 w1.heap.size k lo (H : Int) A n c ss _ bq (Nat.le_refl _) rq (HS.out.below (chain HB1.out bq)) hcn.out)
        have z0 := (HQ1.out.below bq HQ1.out.lt).cell 0
        have z1 := (HQ1.out.below bq HQ1.out.lt).cell 1
        have z2 := (HQ1.out.below bq HQ1.out.lt).cell 2
        have HBQ := Lib.hid bq
        clear bq rq
        go_wp2_with (go_at_call 34; ((with_reducible refine (HW.out _).mono ?_); rintro e w' ⟨rfl, rfl⟩))
        refine HBG.out.mono ?_
        rintro e w2 ⟨p, hv, av, rfl, R1, b2⟩
        have HR1' := Lib.hid R1
        have HB2 := Lib.hid (chain HBQ.out b2)
        have z0 := (HQ1.out.below HB2.out HQ1.out.lt).cell 0
        have z1 := (HQ1.out.below HB2.out HQ1.out.lt).cell 1
        have z2 := (HQ1.out.below HB2.out HQ1.out.lt).cell 2
        have HBH : Hid (Calls Tryd.prog 39 #[.pointer (some ⟨p, 0, none⟩), .agg #[.int .i64 0, .int .i64 (H : Int)], .string h, .int .i64 ((H : Int) + 1)] w2
          (fun e w' => e = .returned (.tuple #[]) ∧ ∃ hv' av' mv', RunS w1 38 p w1.heap.size lo (wid k : Int) ((H : Int) + 1) (beh k ((covL lo (H : Int)).zip ss) ((0, H), h)).1 (beh k ((covL lo (H : Int)).zip ss) ((0, H), h)).2 hv' av' mv' w')) := Lib.hid (by
          have := behind_calls w1 38 p w1.heap.size lo (wid k : Int) (H : Int) ((H : Int) + 1) ((covL lo (H : Int)).zip ss) [] ((0, H), h) hv av _ w2 pushTell (fun _ _ => rfl) HR1'.out (HT.out.below HB1.out) HZO.out ⟨Nat.zero_le _, by show (H + 1) * 2 ^ 0 ≤ _; omega, by show h.size ≤ 32; have := HWL.out; have := HSZ.out; omega⟩ (by have := HCL.out; rw [List.length_zip]; simp; omega)
          rw [beh_wid, List.nil_append] at this
          exact this)
        clear b2 R1 y0 y1 y2
        go_wp2_with fail
        refine HBH.out.mono ?_
        rintro e w3 ⟨rfl, hv3, av3, mv3, R3⟩
        obtain ⟨A9, c9, ev, _, _⟩ := R3.oh.shape
        obtain ⟨N9, hN9⟩ : ∃ N9, ((beh k ((covL lo (H : Int)).zip ss) ((0, H), h)).1.map (·.2)).length = N9 := ⟨_, rfl⟩
        rw [hN9] at ev
        clear hN9
        subst ev
        have HR3 := Lib.hid R3
        have x0 := R3.row.cell 0
        have x1 := R3.row.cell 1
        have x2 := R3.row.cell 2
        have x3 := R3.box.cell 0
        have q3 := HQ2.out.below R3.bel HQ2.out.lt
        have v0 := q3.cell 0
        have v1 := q3.cell 1
        have v2 := q3.cell 2
        have f0 := q3.free 0
        have f1 := q3.free 1
        have f2 := q3.free 2
        have HQ2S : Hid (w.heap.size + 1 < w1.heap.size ∧ w.heap.size ≤ w1.heap.size) := Lib.hid ⟨HQ2.out.lt, HB1.out.size⟩
        have HPN : Hid (pushLo k lo (H : Int) ss h = lo ∧ pushHi k lo (H : Int) ss h = (H : Int) + 1 ∧ pushN k lo (H : Int) ss h = beh k ((covL lo (H : Int)).zip ss) ((0, H), h)) := Lib.hid (by
          unfold pushLo pushHi pushN
          rw [HF.out]
          exact ⟨if_neg (by simp), if_neg (by simp), by rw [if_neg (by simp)]; rfl⟩)
        have hn1 : ¬ (w.heap.size + 1 = w1.heap.size) := by have := HQ2S.out.1; omega
        have hn2 : ¬ (w1.heap.size = w.heap.size + 1) := by have := HQ2S.out.1; omega
        have hn3 : ¬ (w.heap.size + 1 = p) := by have := HQ2S.out.1; have := R3.bp; omega
        have hn4 : ¬ (p = w.heap.size + 1) := by have := HQ2S.out.1; have := R3.bp; omega
        clear R3 q3 z0 z1 z2
        go_wp2_with fail
        go_region
        all_goals go_wp2
        refine bodyPost_ret (v := .tuple #[.agg #[.int .i64 lo, .int .i64 ((H : Int) + 1), .slice A9 N9 c9], mv3, .int .i64 0]) (by simp [results, Tryd.f19, go_sem, v0, v1, v2]) rfl ?_
        unfold PushA
        rw [HPN.out.1, HPN.out.2.1, HPN.out.2.2, HF.out]
        have r3 := HR3.out
        have hne : ∀ (v : Value), (∀ j, v.ownBlock = some j → w1.heap.size ≤ j) → ∀ i : Nat, v.ownBlock ≠ some (⟨w.heap.size + 1, i, none⟩ : Addr).block := fun v hv i e => absurd (show w1.heap.size ≤ w.heap.size + 1 from hv _ e) (by have := HQ2S.out.1; omega)
        have b0 : ∀ i : Nat, w.heap.size ≤ (⟨w.heap.size + 1, i, none⟩ : Addr).block := fun _ => Nat.le_succ _
        refine ⟨_, _, rfl, ?_, ?_, r3.hm, ?_⟩
        · exact Lst.own_down (ownsRow_setCell_other (ownsRow_setCell_other (ownsRow_setCell_other r3.oh (hne _ (own_base r3.oh) 0) _) (hne _ (own_base r3.oh) 1) _) (hne _ (own_base r3.oh) 2) _) HQ2S.out.2
        · exact Lst.own_down (ownsRow_setCell_other (ownsRow_setCell_other (ownsRow_setCell_other r3.om (hne _ (own_base r3.om) 0) _) (hne _ (own_base r3.om) 1) _) (hne _ (own_base r3.om) 2) _) HQ2S.out.2
        · exact ((((chain HB1.out r3.bel).setCell (b0 0) _).setCell (b0 1) _).setCell (b0 2) _).drew
    · have hs1 : ((h.size : Int) == (wid k : Int)) = false := by rw [beq_eq_false_iff_ne]; omega
      have hs2 : ((h.size : Int) != (wid k : Int)) = true := by rw [bne, hs1]; rfl
      have HF : Hid (pushE k lo hi ss h = 72) := Lib.hid (by unfold pushE; rw [HCK.out, if_neg (by simp), if_pos hsz])
      clear hsz
      go_enter Tryd.func19, Tryd.ntmps19
      go_wp2_with fail
      refine HK.out.mono ?_
      rintro e w1 ⟨rfl, b1⟩
      have HB1 := Lib.hid (chain HB0.out b1)
      have HQ1 := Lib.hid (HR1.out.below b1 HR1.out.lt)
      have q2 := HR2.out.below b1 HR2.out.lt
      have HQ2 := Lib.hid q2
      have y0 := HQ1.out.cell 0
      have y1 := HQ1.out.cell 1
      have y2 := HQ1.out.cell 2
      have x0 := q2.cell 0
      have x1 := q2.cell 1
      have x2 := q2.cell 2
      have f0 := q2.free 0
      have f1 := q2.free 1
      have f2 := q2.free 2
      clear b1 q2 c10 c11 c12
      go_wp2_with (go_at_call 34; ((with_reducible refine (HW.out _).mono ?_); rintro e w' ⟨rfl, rfl⟩))
      refine bodyPost_ret (v := .tuple #[fv 0 0 none 0 0, .slice none 0 0, .int .i64 72]) (by simp [results, Tryd.f19, go_sem, x0, x1, x2]) rfl (pushA_bad HF.out (by decide) ?_)
      exact ((HB1.out.setCell (by show w.heap.size ≤ w.heap.size + 1; omega) _).setCell (by show w.heap.size ≤ w.heap.size + 1; omega) _).setCell (by show w.heap.size ≤ w.heap.size + 1; omega) _
  · have HF : Hid (pushE k lo hi ss h = chk k lo hi ss) := Lib.hid (by unfold pushE; rw [if_pos hz])
    have HZ := Lib.hid hz
    generalize chk k lo hi ss = z at *
    have hlo1 : (z == 0) = false := by rw [beq_eq_false_iff_ne]; exact hz
    have hlo2 : (z != 0) = true := by rw [bne, hlo1]; rfl
    clear hz
    go_enter Tryd.func19, Tryd.ntmps19
    go_wp2_with fail
    refine HK.out.mono ?_
    rintro e w1 ⟨rfl, b1⟩
    have HB1 := Lib.hid (chain HB0.out b1)
    have q2 := HR2.out.below b1 HR2.out.lt
    have x0 := q2.cell 0
    have x1 := q2.cell 1
    have x2 := q2.cell 2
    have f0 := q2.free 0
    have f1 := q2.free 1
    have f2 := q2.free 2
    clear b1 q2 c10 c11 c12
    go_wp2
    refine bodyPost_ret (v := .tuple #[fv 0 0 none 0 0, .slice none 0 0, .int .i64 z]) (by simp [results, Tryd.f19, go_sem, x0, x1, x2]) rfl (pushA_bad HF.out HZ.out ?_)
    exact ((HB1.out.setCell (by show w.heap.size ≤ w.heap.size + 1; omega) _).setCell (by show w.heap.size ≤ w.heap.size + 1; omega) _).setCell (by show w.heap.size ≤ w.heap.size + 1; omega) _
end Go.Proofs.YtahkpcbemnfllaaDoor.Comp
namespace Go.Proofs.YtahkpcbemnfllaaDoor.Comp
open Go.RowKit Go.Proofs.YtahkpcbemnfllaaDoor.Base Go.Proofs.YtahkpcbemnfllaaDoor.Mem Go.Proofs.YtahkpcbemnfllaaDoor.Strs Go.Proofs.YtahkpcbemnfllaaDoor.ShaDig Go.Proofs.YtahkpcbemnfllaaDoor.TreeHash Go.Proofs.YtahkpcbemnfllaaDoor.Cov
open Go.Proofs.YtahkpcbemnfllaaDoor.Lst (OwnA Adr OwnA.shape Kp own_below Lst ac ac_append ac_length infoAddr own_lt own_base own_shape own_kp)

theorem rpush_end {w w1 w3 W5 : World} {lo hi1 : Int} {vh wv : Value} {hs : List ByteArray} {md : List Md} (hB1 : Below w.heap.size w w1) (hr : w.heap.size + 1 < w1.heap.size) (hB5 : Below w1.heap.size w1 W5)
    (oh : Strs.Own W5 w3.heap.size vh hs) (om : OwnM W5 w1.heap.size wv md) (hwl : ∀ k, wv.ownBlock = some k → k < w3.heap.size) (h13 : w1.heap.size ≤ w3.heap.size) (a b c : Value) :
    Ans lo hi1 0 hs md w (.returned (.tuple #[.agg #[.int .i64 lo, .int .i64 hi1, vh], wv, .int .i64 0])) (((W5.setCell ⟨w.heap.size + 1, 0, none⟩ a).setCell ⟨w.heap.size + 1, 1, none⟩ b).setCell ⟨w.heap.size + 1, 2, none⟩ c).drew := by
  have hne : ∀ (v : Value), (∀ j, v.ownBlock = some j → w1.heap.size ≤ j) → ∀ i : Nat, v.ownBlock ≠ some (⟨w.heap.size + 1, i, none⟩ : Addr).block := fun v hv i e => absurd (show w1.heap.size ≤ w.heap.size + 1 from hv _ e) (by omega)
  have b0 : ∀ i : Nat, w.heap.size ≤ (⟨w.heap.size + 1, i, none⟩ : Addr).block := fun _ => Nat.le_succ _
  have hs1 := hB1.size
  have oh' : ∀ j, vh.ownBlock = some j → w1.heap.size ≤ j := fun j e => by have := own_base oh j e; omega
  refine ⟨_, _, rfl, ?_, ?_, fun k e1 e2 => by have := own_base oh k e1; have := hwl k e2; omega, ?_⟩
  · exact Lst.own_down (ownsRow_setCell_other (ownsRow_setCell_other (ownsRow_setCell_other oh (hne _ oh' 0) _) (hne _ oh' 1) _) (hne _ oh' 2) _) (by omega)
  · exact Lst.own_down (ownsRow_setCell_other (ownsRow_setCell_other (ownsRow_setCell_other om (hne _ (own_base om) 0) _) (hne _ (own_base om) 1) _) (hne _ (own_base om) 2) _) hs1
  · exact ((((chain hB1 hB5).setCell (b0 0) _).setCell (b0 1) _).setCell (b0 2) _).drew
set_option maxRecDepth 100000 in
set_option maxHeartbeats 4000000 in
theorem rpush_calls (k lo hi : Int) (A : Option Addr) (n c : Nat) (ss : List ByteArray) (h : ByteArray) (w : World) (hS : Strs w A n ss) (hnc : n ≤ c) (hn : n ≤ 8796093022208) (hT : RTab w) :
    Calls Tryd.prog 20 #[.int .i64 k, fv lo hi A n c, .string h] w (PushA k lo hi ss h w) := by
  have r1 := (Row.new w #[.int .i64 lo, .int .i64 hi, .slice A n c] 24).alloc (.cells #[.int .i64 0, .int .i64 0, .slice none 0 0] 24)
  have r2 := Row.new (w.alloc (.cells #[.int .i64 lo, .int .i64 hi, .slice A n c] 24)) #[.int .i64 0, .int .i64 0, .slice none 0 0] 24
  rw [World.size_alloc] at r2
  have hb0 : Below w.heap.size w ((w.alloc (.cells #[.int .i64 lo, .int .i64 hi, .slice A n c] 24)).alloc (.cells #[.int .i64 0, .int .i64 0, .slice none 0 0] 24)) := ((Below.refl _ w).alloc (Nat.le_refl _) _).alloc (by simp) _
  have HK := Lib.hid (rcheck_calls k lo hi A n c ss _ (hS.below hb0) hn)
  have HR1 := Lib.hid r1
  have HR2 := Lib.hid r2
  have HB0 := Lib.hid hb0
  have HS := Lib.hid hS
  have HT := Lib.hid hT
  have HL := Lib.hid hS.len
  have c10 := r1.cell 0
  have c11 := r1.cell 1
  have c12 := r1.cell 2
  have HW := Lib.hid (fun W => rwidth_calls k W)
  clear r1 r2 hb0 hS hT
  by_cases hz : chk k lo hi ss = 0
  · have HCK := Lib.hid hz
    rw [hz] at HK
    clear hz
    by_cases hsz : h.size = wid k
    · have hs1 : ((h.size : Int) == (wid k : Int)) = true := by rw [beq_iff_eq]; omega
      have hs2 : ((h.size : Int) != (wid k : Int)) = false := by rw [bne, hs1]; rfl
      have HSZ := Lib.hid hsz
      clear hsz
      by_cases hmx : hi = 4611686018427387904
      · have HF : Hid (pushE k lo hi ss h = 10) := Lib.hid (by unfold pushE; rw [HCK.out, if_neg (by simp), if_neg (by simp [HSZ.out]), if_pos hmx])
        subst hmx
        go_enter Tryd.func20, Tryd.ntmps20
        go_wp2_with fail
        refine HK.out.mono ?_
        rintro e w1 ⟨rfl, b1⟩
        have HB1 := Lib.hid (chain HB0.out b1)
        have HQ1 := Lib.hid (HR1.out.below b1 HR1.out.lt)
        have q2 := HR2.out.below b1 HR2.out.lt
        have HQ2 := Lib.hid q2
        have y0 := HQ1.out.cell 0
        have y1 := HQ1.out.cell 1
        have y2 := HQ1.out.cell 2
        have x0 := q2.cell 0
        have x1 := q2.cell 1
        have x2 := q2.cell 2
        have f0 := q2.free 0
        have f1 := q2.free 1
        have f2 := q2.free 2
        clear b1 q2 c10 c11 c12
        go_wp2_with (go_at_call 40; ((with_reducible refine (HW.out _).mono ?_); rintro e w' ⟨rfl, rfl⟩))
        refine bodyPost_ret (v := .tuple #[fv 0 0 none 0 0, .slice none 0 0, .int .i64 10]) (by simp [results, Tryd.f20, go_sem, x0, x1, x2]) rfl (pushA_bad HF.out (by decide) ?_)
        exact ((HB1.out.setCell (by show w.heap.size ≤ w.heap.size + 1; omega) _).setCell (by show w.heap.size ≤ w.heap.size + 1; omega) _).setCell (by show w.heap.size ≤ w.heap.size + 1; omega) _
      · obtain ⟨e1, e2, e3, e4, e5, e6⟩ := chk_ok HCK.out
        obtain ⟨H, rfl⟩ : ∃ H : Nat, hi = H := ⟨hi.toNat, by omega⟩
        have hH : H < 4611686018427387904 := by omega
        have hm1 : ((H : Int) == 4611686018427387904) = false := by rw [beq_eq_false_iff_ne]; exact hmx
        have HF : Hid (pushE k lo (H : Int) ss h = 0) := Lib.hid (by unfold pushE; rw [HCK.out, if_neg (by simp), if_neg (by simp [HSZ.out]), if_neg hmx])
        have HCL := Lib.hid (covL_len lo (H : Int))
        have hcn : Hid ((covL lo (H : Int)).length = n) := Lib.hid (by rw [e2, HL.out])
        have HZO := Lib.hid (zip_ok HCK.out)
        have HWL := Lib.hid (wid_le k)
        clear e1 e2 e3 e4 e5 e6
        go_enter Tryd.func20, Tryd.ntmps20
        go_wp2_with fail
        refine HK.out.mono ?_
        rintro e w1 ⟨rfl, b1⟩
        have HB1 := Lib.hid (chain HB0.out b1)
        have HQ1 := Lib.hid (HR1.out.below b1 HR1.out.lt)
        have q2 := HR2.out.below b1 HR2.out.lt
        have HQ2 := Lib.hid q2
        have y0 := HQ1.out.cell 0
        have y1 := HQ1.out.cell 1
        have y2 := HQ1.out.cell 2
        clear b1 q2 c10 c11 c12
        have HOP := Lib.hid (open_calls lo (H : Int) A n c ss w1 (HS.out.below HB1.out) hcn.out)
        go_wp2_with (go_at_call 40; ((with_reducible refine (HW.out _).mono ?_); rintro e w' ⟨rfl, rfl⟩))
        refine HOP.out.mono ?_
        rintro e w2 ⟨v, rfl, ov, b2⟩
        have b3 : Below w2.heap.size w2 (w2.alloc (.cells #[v, .slice none 0 0] 80)) := (Below.refl _ w2).alloc (Nat.le_refl _) _
        have rp := Row.new w2 #[v, .slice none 0 0] 80
        have HRR : Hid (RunR w1 w2.heap.size ((covL lo (H : Int)).zip ss) [] v (.slice none 0 0) (w2.alloc (.cells #[v, .slice none 0 0] 80))) := Lib.hid {
          bel := chain b2 b3
          bp := b2.size
          row := rp
          on := own_below ov b3
          ow := World.ownsRow_nil _ _ _ _
          pn := fun e => by have := own_lt ov _ e; omega
          pw := fun e => by simp [Value.ownBlock] at e
          nw := fun _ _ e => by simp [Value.ownBlock] at e }
        obtain ⟨AV, cv, ev, _⟩ := own_mds ov
        have HBH := Lib.hid (rbehind_calls w1 w2.heap.size k ((covL lo (H : Int)).zip ss) [] ((0, H), h) v _ _ HRR.out (HT.out.below HB1.out) HZO.out ⟨Nat.zero_le _, by show (H + 1) * 2 ^ 0 ≤ _; omega, by show h.size ≤ 32; have := HWL.out; have := HSZ.out; omega⟩ (by have := HCL.out; rw [List.length_zip]; simp; omega))
        obtain ⟨LN, hLN⟩ : ∃ LN, ((covL lo (H : Int)).zip ss).length = LN := ⟨_, rfl⟩
        rw [hLN] at ev
        clear hLN
        subst ev
        have HB2 := Lib.hid b2
        have z0 := (HQ1.out.below b2 HQ1.out.lt).cell 0
        have z1 := (HQ1.out.below b2 HQ1.out.lt).cell 1
        have z2 := (HQ1.out.below b2 HQ1.out.lt).cell 2
        have zz0 := (HQ1.out.below (chain b2 b3) HQ1.out.lt).cell 0
        have zz1 := (HQ1.out.below (chain b2 b3) HQ1.out.lt).cell 1
        have zz2 := (HQ1.out.below (chain b2 b3) HQ1.out.lt).cell 2
        clear ov b2 b3 rp y0 y1 y2
        go_wp2_with fail
        refine HBH.out.mono ?_
        rintro e w3 ⟨rfl, nv, wv, R3⟩
        rw [List.nil_append] at R3
        obtain ⟨AN, cN, en, _, hmn, _⟩ := own_mds R3.on
        have hlenN := beh_len k ((covL lo (H : Int)).zip ss) ((0, H), h)
        have hzl : ((covL lo (H : Int)).zip ss).length ≤ 122 := by rw [List.length_zip]; have := HCL.out; omega
        have HM := Lib.hid hmn
        have HMS : Hid ((beh k ((covL lo (H : Int)).zip ss) ((0, H), h)).1.length ≤ 4000) := Lib.hid (by omega)
        have HPN : Hid (pushLo k lo (H : Int) ss h = lo ∧ pushHi k lo (H : Int) ss h = (H : Int) + 1 ∧ pushN k lo (H : Int) ss h = beh k ((covL lo (H : Int)).zip ss) ((0, H), h)) := Lib.hid (by
          unfold pushLo pushHi pushN
          rw [HF.out]
          exact ⟨if_neg (by simp), if_neg (by simp), by rw [if_neg (by simp)]; rfl⟩)
        generalize beh k ((covL lo (H : Int)).zip ss) ((0, H), h) = BB at *
        obtain ⟨N, hN⟩ : ∃ N, BB.1.length = N := ⟨_, rfl⟩
        rw [hN] at en HM HMS hmn
        subst en
        have HFR : Hid (∀ W, Below w3.heap.size w3 W → Calls Tryd.prog 43 #[.int .i64 lo, .int .i64 ((H : Int) + 1), .slice AN N cN] W (fun e w' => ∃ v, e = .returned (.agg #[.int .i64 lo, .int .i64 ((H : Int) + 1), v]) ∧ Strs.Own w' W.heap.size v (BB.1.map (·.2)) ∧ Below W.heap.size W w')) :=
          Lib.hid (fun W hW => frontier_calls lo ((H : Int) + 1) AN N cN BB.1 W (HM.out.below hW) HMS.out)
        have HR3 := Lib.hid R3
        have u0 := (HQ1.out.below R3.bel HQ1.out.lt).cell 0
        have u1 := (HQ1.out.below R3.bel HQ1.out.lt).cell 1
        have u2 := R3.row.cell 0
        have HC : Hid (∀ W, Below w3.heap.size w3 W → W.cell? ⟨w.heap.size, 0, none⟩ = some (.int .i64 lo) ∧ W.cell? ⟨w.heap.size, 1, none⟩ = some (.int .i64 (H : Int)) ∧ W.cell? ⟨w2.heap.size, 0, none⟩ = some (.slice AN N cN)) := Lib.hid (fun W hW => by
          have r := HR3.out.below hW
          exact ⟨(HQ1.out.below r.bel HQ1.out.lt).cell 0, (HQ1.out.below r.bel HQ1.out.lt).cell 1, r.row.cell 0⟩)
        have HH : (H : Int) + 1 ≤ 4611686018427387904 := by omega
        have hwr : IntKind.i64.wrap ((H : Int) + 1) = (H : Int) + 1 := IntWalk.i64_in _ (by omega)
        clear R3 hmn hlenN hzl z0 z1 z2 zz0 zz1 zz2
        go_wp2_with fail
        go_region_held3 (fun W => W.cell? ⟨w.heap.size, 0, none⟩ = some (.int .i64 lo) ∧ W.cell? ⟨w.heap.size, 1, none⟩ = some (.int .i64 (H : Int)) ∧ W.cell? ⟨w2.heap.size, 0, none⟩ = some (.slice AN N cN)) (first | go_keep | exact HC.out _ B4 | exact HC.out _ (B4.alloc B4.size _) | exact HC.out _ (((B4.setCell (Nat.le_refl _) _).setCell (Nat.le_refl _) _).setCell (Nat.le_refl _) _) | exact HC.out _ (((Below.refl _ _).alloc (Nat.le_refl _) _).drew))
          ((go_at_call 43; (with_reducible refine (HFR.out _ (by first | exact (Below.refl _ _).drew | exact ((Below.refl _ _).alloc (Nat.le_refl _) _).drew)).mono ?_); rintro e w4 ⟨v4, rfl, o4, b4⟩; obtain ⟨A4, c4, e4, _, _⟩ := o4.shape; obtain ⟨M4, hM4⟩ : ∃ M4, (BB.1.map (·.2)).length = M4 := ⟨_, rfl⟩; rw [hM4] at e4; clear hM4; subst e4; have B4 : Below w3.heap.size w3 w4 := (by first | exact chain (Below.refl _ _).drew b4 | exact chain ((Below.refl _ _).alloc (Nat.le_refl _) _).drew b4); (first | (have rz := Row.below (Row.drew (Row.new w3 #[.int .i64 0, .int .i64 0, .slice none 0 0] 24)) b4 (by simp); have g0 := rz.cell 0; have g1 := rz.cell 1; have g2 := rz.cell 2; have g3 := rz.free 0; have g4 := rz.free 1; have g5 := rz.free 2; clear rz) | skip); have HO4 := Lib.hid o4; have HB4 := Lib.hid b4; clear o4 b4))
        · have bA := B4.alloc B4.size (.cells #[.int .i64 lo, .int .i64 ((H : Int) + 1), .slice A4 M4 c4] 24)
          have rA := Row.new w4 #[.int .i64 lo, .int .i64 ((H : Int) + 1), .slice A4 M4 c4] 24
          have HR5 := Lib.hid (HR3.out.below bA)
          have hn3 : ¬ (w4.heap.size = w.heap.size + 1) := by have := HQ2.out.lt; have := HR3.out.bel.size; have := B4.size; omega
          have hn4 : ¬ (w.heap.size + 1 = w4.heap.size) := by have := HQ2.out.lt; have := HR3.out.bel.size; have := B4.size; omega
          have HO5 : Hid (Strs.Own (w4.alloc (.cells #[.int .i64 lo, .int .i64 ((H : Int) + 1), .slice A4 M4 c4] 24)) w3.heap.size (.slice A4 M4 c4) (BB.1.map (·.2))) := Lib.hid (World.ownsRow.alloc HO4.out _)
          have HRB := Lib.hid rA
          clear bA rA B4 HC HFR
          obtain ⟨W5, hW5⟩ : ∃ W5, w4.alloc (.cells #[.int .i64 lo, .int .i64 ((H : Int) + 1), .slice A4 M4 c4] 24) = W5 := ⟨_, rfl⟩
          rw [hW5] at HR5 HO5 HRB ⊢
          clear hW5
          have R5 := HR5.out
          have HEND := Lib.hid (rpush_end (lo := lo) (hi1 := (H : Int) + 1) HB1.out HQ2.out.lt R5.bel HO5.out R5.ow (own_lt HR3.out.ow) HR3.out.bel.size)
          have v0 := HRB.out.cell 0
          have v1 := HRB.out.cell 1
          have v2 := HRB.out.cell 2
          have v3 := R5.row.cell 1
          have q3 := HQ2.out.below R5.bel HQ2.out.lt
          have d0 := q3.cell 0
          have d1 := q3.cell 1
          have d2 := q3.cell 2
          have f0 := q3.free 0
          have f1 := q3.free 1
          have f2 := q3.free 2
          have hn1 : ¬ (w.heap.size + 1 = w2.heap.size) := by have := HQ2.out.lt; have := HR3.out.bp; omega
          have hn2 : ¬ (w2.heap.size = w.heap.size + 1) := by have := HQ2.out.lt; have := HR3.out.bp; omega
          clear R5 q3 u0 u1 u2
          go_wp2_with fail
          go_region
          all_goals go_wp2
          refine bodyPost_ret (v := .tuple #[.agg #[.int .i64 lo, .int .i64 ((H : Int) + 1), .slice A4 M4 c4], wv, .int .i64 0]) (by simp [results, Tryd.f20, go_sem, d0, d1, d2]) rfl ?_
          unfold PushA
          rw [HPN.out.1, HPN.out.2.1, HPN.out.2.2, HF.out]
          exact HEND.out _ _ _
        · have rz := Row.below (Row.drew (Row.new w3 #[.int .i64 0, .int .i64 0, .slice none 0 0] 24)) HB4.out (by simp)
          have bB := ((B4.setCell (p := ⟨w3.heap.size, 0, none⟩) (Nat.le_refl _) (.int .i64 lo)).setCell (p := ⟨w3.heap.size, 1, none⟩) (Nat.le_refl _) (.int .i64 ((H : Int) + 1))).setCell (p := ⟨w3.heap.size, 2, none⟩) (Nat.le_refl _) (.slice A4 M4 c4)
          have HR5 := Lib.hid (HR3.out.below bB)
          have HRB := Lib.hid (((rz.set 0 (.int .i64 lo)).set 1 (.int .i64 ((H : Int) + 1))).set 2 (.slice A4 M4 c4))
          have hn3 : ¬ (w3.heap.size = w.heap.size + 1) := by have := HQ2.out.lt; have := HR3.out.bel.size; omega
          have hn4 : ¬ (w.heap.size + 1 = w3.heap.size) := by have := HQ2.out.lt; have := HR3.out.bel.size; omega
          have hoff : ∀ i : Nat, (Value.slice A4 M4 c4).ownBlock ≠ some (⟨w3.heap.size, i, none⟩ : Addr).block := fun i e => by
            have h1 := own_base HO4.out _ e
            have h2 : (w3.alloc (.cells #[.int .i64 0, .int .i64 0, .slice none 0 0] 24)).heap.size ≤ w3.heap.size := h1
            rw [World.size_alloc] at h2
            omega
          have HO5 := Lib.hid (Lst.own_down (base' := w3.heap.size) (ownsRow_setCell_other (a := ⟨w3.heap.size, 2, none⟩) (ownsRow_setCell_other (a := ⟨w3.heap.size, 1, none⟩) (ownsRow_setCell_other (a := ⟨w3.heap.size, 0, none⟩) HO4.out (hoff 0) (.int .i64 lo)) (hoff 1) (.int .i64 ((H : Int) + 1))) (hoff 2) (.slice A4 M4 c4)) (by show w3.heap.size ≤ (w3.alloc (.cells #[.int .i64 0, .int .i64 0, .slice none 0 0] 24)).heap.size; rw [World.size_alloc]; omega))
          clear rz bB B4 HC HFR hoff HO4 HB4
          obtain ⟨W5, hW5⟩ : ∃ W5, ((w4.setCell ⟨w3.heap.size, 0, none⟩ (.int .i64 lo)).setCell ⟨w3.heap.size, 1, none⟩ (.int .i64 ((H : Int) + 1))).setCell ⟨w3.heap.size, 2, none⟩ (.slice A4 M4 c4) = W5 := ⟨_, rfl⟩
          rw [hW5] at HR5 HO5 HRB ⊢
          clear hW5 g0 g1 g2 g3 g4 g5
          have R5 := HR5.out
          have HEND := Lib.hid (rpush_end (lo := lo) (hi1 := (H : Int) + 1) HB1.out HQ2.out.lt R5.bel HO5.out R5.ow (own_lt HR3.out.ow) HR3.out.bel.size)
          have v0 := HRB.out.cell 0
          have v1 := HRB.out.cell 1
          have v2 := HRB.out.cell 2
          have v3 := R5.row.cell 1
          have q3 := HQ2.out.below R5.bel HQ2.out.lt
          have d0 := q3.cell 0
          have d1 := q3.cell 1
          have d2 := q3.cell 2
          have f0 := q3.free 0
          have f1 := q3.free 1
          have f2 := q3.free 2
          have hn1 : ¬ (w.heap.size + 1 = w2.heap.size) := by have := HQ2.out.lt; have := HR3.out.bp; omega
          have hn2 : ¬ (w2.heap.size = w.heap.size + 1) := by have := HQ2.out.lt; have := HR3.out.bp; omega
          clear R5 q3 u0 u1 u2
          go_wp2_with fail
          go_region
          all_goals go_wp2
          refine bodyPost_ret (v := .tuple #[.agg #[.int .i64 lo, .int .i64 ((H : Int) + 1), .slice A4 M4 c4], wv, .int .i64 0]) (by simp [results, Tryd.f20, go_sem, d0, d1, d2]) rfl ?_
          unfold PushA
          rw [HPN.out.1, HPN.out.2.1, HPN.out.2.2, HF.out]
          exact HEND.out _ _ _
    · have hs1 : ((h.size : Int) == (wid k : Int)) = false := by rw [beq_eq_false_iff_ne]; omega
      have hs2 : ((h.size : Int) != (wid k : Int)) = true := by rw [bne, hs1]; rfl
      have HF : Hid (pushE k lo hi ss h = 72) := Lib.hid (by unfold pushE; rw [HCK.out, if_neg (by simp), if_pos hsz])
      clear hsz
      go_enter Tryd.func20, Tryd.ntmps20
      go_wp2_with fail
      refine HK.out.mono ?_
      rintro e w1 ⟨rfl, b1⟩
      have HB1 := Lib.hid (chain HB0.out b1)
      have HQ1 := Lib.hid (HR1.out.below b1 HR1.out.lt)
      have q2 := HR2.out.below b1 HR2.out.lt
      have HQ2 := Lib.hid q2
      have y0 := HQ1.out.cell 0
      have y1 := HQ1.out.cell 1
      have y2 := HQ1.out.cell 2
      have x0 := q2.cell 0
      have x1 := q2.cell 1
      have x2 := q2.cell 2
      have f0 := q2.free 0
      have f1 := q2.free 1
      have f2 := q2.free 2
      clear b1 q2 c10 c11 c12
      go_wp2_with (go_at_call 40; ((with_reducible refine (HW.out _).mono ?_); rintro e w' ⟨rfl, rfl⟩))
      refine bodyPost_ret (v := .tuple #[fv 0 0 none 0 0, .slice none 0 0, .int .i64 72]) (by simp [results, Tryd.f20, go_sem, x0, x1, x2]) rfl (pushA_bad HF.out (by decide) ?_)
      exact ((HB1.out.setCell (by show w.heap.size ≤ w.heap.size + 1; omega) _).setCell (by show w.heap.size ≤ w.heap.size + 1; omega) _).setCell (by show w.heap.size ≤ w.heap.size + 1; omega) _
  · have HF : Hid (pushE k lo hi ss h = chk k lo hi ss) := Lib.hid (by unfold pushE; rw [if_pos hz])
    have HZ := Lib.hid hz
    generalize chk k lo hi ss = z at *
    have hlo1 : (z == 0) = false := by rw [beq_eq_false_iff_ne]; exact hz
    have hlo2 : (z != 0) = true := by rw [bne, hlo1]; rfl
    clear hz
    go_enter Tryd.func20, Tryd.ntmps20
    go_wp2_with fail
    refine HK.out.mono ?_
    rintro e w1 ⟨rfl, b1⟩
    have HB1 := Lib.hid (chain HB0.out b1)
    have q2 := HR2.out.below b1 HR2.out.lt
    have x0 := q2.cell 0
    have x1 := q2.cell 1
    have x2 := q2.cell 2
    have f0 := q2.free 0
    have f1 := q2.free 1
    have f2 := q2.free 2
    clear b1 q2 c10 c11 c12
    go_wp2
    refine bodyPost_ret (v := .tuple #[fv 0 0 none 0 0, .slice none 0 0, .int .i64 z]) (by simp [results, Tryd.f20, go_sem, x0, x1, x2]) rfl (pushA_bad HF.out HZ.out ?_)
    exact ((HB1.out.setCell (by show w.heap.size ≤ w.heap.size + 1; omega) _).setCell (by show w.heap.size ≤ w.heap.size + 1; omega) _).setCell (by show w.heap.size ≤ w.heap.size + 1; omega) _
theorem pushN_len (k lo hi : Int) (ss : List ByteArray) (h : ByteArray) : (pushN k lo hi ss h).1.length ≤ 4000 ∧ (pushN k lo hi ss h).2.length ≤ 4000 := by
  unfold pushN
  split
  · simp
  · have h1 := beh_len k ((covL lo hi).zip ss) ((0, hi.toNat), h)
    have h2 := covL_len lo hi
    rw [List.length_zip] at h1
    omega
/-- An answer as the law sees it. -/
theorem Ans.shape {lo hi z : Int} {hs : List ByteArray} {md : List Md} {w w' : World} {e : Ending} (h : Ans lo hi z hs md w e w') : ∃ B1 n1 c1 B2 n2 c2, e = .returned (.tuple #[fv lo hi B1 n1 c1, .slice B2 n2 c2, .int .i64 z]) ∧ Strs w' B1 n1 hs ∧ Mds w' B2 n2 md ∧ n1 = hs.length ∧ n2 = md.length ∧ Below w.heap.size w w' := by
  obtain ⟨vh, vm, rfl, oh, om, _, b⟩ := h
  obtain ⟨B1, c1, rfl, _, hs1⟩ := oh.shape
  obtain ⟨B2, c2, rfl, _, hm2, _⟩ := own_mds om
  exact ⟨B1, _, c1, B2, _, c2, rfl, hs1, hm2, rfl, rfl, b⟩
end Go.Proofs.YtahkpcbemnfllaaDoor.Comp
