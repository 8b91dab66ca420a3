/- ShaHistory: its walk. -/
import Derived.Test.YtkhcinnpfpkhnaaDoorHist3
set_option linter.unusedVariables false
set_option linter.unusedSimpArgs false
namespace Go.Proofs.YtkhcinnpfpkhnaaDoor.Hist
open Go.RowKit Go.Proofs.YtkhcinnpfpkhnaaDoor.Base Go.Proofs.YtkhcinnpfpkhnaaDoor.Mem Go.Proofs.YtkhcinnpfpkhnaaDoor.ShaDig Go.Proofs.YtkhcinnpfpkhnaaDoor.ShaLaws
attribute [-go_sem] Go.Builtin.append_

theorem chain {w W W' : World} (B : Below w.heap.size w W) (C : Below W.heap.size W W') : Below w.heap.size w W' := B.trans (C.mono B.size)
theorem Ok.mono {w0 W : World} {bb Z Z2 : Nat} (h : Ok w0 bb Z W) (hz : Z ≤ Z2) : Ok w0 bb Z2 W := by
  obtain ⟨vP, vR, ps, rs, tp, h1, h2, h3, h4, h5⟩ := h
  exact ⟨vP, vR, ps, rs, tp, h1, h2, h3, h4, fun i => Nat.le_trans (h5 i) hz⟩
set_option maxRecDepth 100000 in
set_option maxHeartbeats 4000000 in
theorem begun_calls (w : World) (hT : Tab w) : Calls Tryd.prog 15 #[] w (fun e w' => ∃ bb, e = .returned (.tuple #[ptr bb, .bool true]) ∧ Ok w bb 0 w') := by
  have bA : Below w.heap.size w (w.alloc (.cells #[.slice none 0 0, .slice none 0 0] 32)) := (Below.refl _ w).alloc (Nat.le_refl _) _
  have rB := Row.new w #[.slice none 0 0, .slice none 0 0] 32
  obtain ⟨W1, hW1⟩ : ∃ W1, w.alloc (.cells #[.slice none 0 0, .slice none 0 0] 32) = W1 := ⟨_, rfl⟩
  rw [hW1] at bA rB
  have HB : Hid (Bn w w.heap.size (.slice none 0 0) (.slice none 0 0) [] [] [] [] W1) := Lib.hid ⟨bA, Nat.le_refl _, rB, ⟨World.ownsRow_nil _ _ _ _, rfl, fun i hi => absurd hi (by simp), fun i j hi => absurd hi (by simp)⟩, ⟨World.ownsRow_nil _ _ _ _, rfl, fun i hi => absurd hi (by simp), fun i j hi => absurd hi (by simp)⟩⟩
  have HNW := Lib.hid (newT W1 (hT.below bA))
  clear bA rB hT
  obtain ⟨bb, hbb⟩ : ∃ bb, w.heap.size = bb := ⟨_, rfl⟩
  have HBB := Lib.hid hbb
  go_enter Tryd.func15, Tryd.ntmps15
  go_wp2_with fail
  try rw [hW1]
  try rw [hbb]
  rw [hbb] at HB
  clear hW1 hbb
  refine HNW.out.mono ?_
  rintro e w2 ⟨q, rfl, hq, bq, hxq⟩
  have bA : Below w2.heap.size w2 (w2.alloc (.cells #[ptr q] 33)) := (Below.refl _ w2).alloc (Nat.le_refl _) _
  have bAA : Below W1.heap.size W1 (w2.alloc (.cells #[ptr q] 33)) := bq.trans (bA.mono bq.size)
  have hB2 := HB.out.call bAA
  obtain ⟨ga, ca, wA, a1, oA, gA⟩ := run_appP 29 w.heap.size _ [] q w2.heap.size hB2.P.own (heap_alloc_new _ _) hB2.bel.size (by simp)
  obtain ⟨hB3, rb3⟩ := HB.out.addP bAA hq (hxq.below bA) oA gA
  simp only [List.length_nil, Nat.zero_add] at a1 hB3
  have rq := HB.out.box.below bq HB.out.box.lt
  have u0 := rq.cell 0
  have u1 := (rq.below bA rq.lt).cell 0
  have u2 := rb3.cell 0
  have u3 := rb3.free 0
  have HB3 := Lib.hid hB3
  clear hB2 oA gA rq rb3 hB3 bAA bA hxq hq bq
  go_wp2_with fail
  obtain ⟨W5, hW5⟩ : ∃ W5, wA.setCell ⟨bb, 0, none⟩ (.slice (some ⟨ga, 0, none⟩) 1 ca) = W5 := ⟨_, rfl⟩
  rw [hW5] at HB3 ⊢
  clear hW5 u0 u1 u2 u3 a1
  have HRC : Hid (∀ W, Below W5.heap.size W5 W → Calls Tryd.prog 38 #[] W (fun e w' => ∃ q, e = .returned (ptr q) ∧ W.heap.size ≤ q ∧ Below W.heap.size W w' ∧ RT w' q ⟨#[]⟩)) := Lib.hid (fun W hW => rnewT W)
  have u1 := HB3.out.box.cell 1
  go_region_law ((first | go_simp | skip); (go_at_call 38; (with_reducible refine (HRC.out _ (by first | exact Below.refl _ _ | exact (Below.refl _ _).drew)).mono ?_); rintro e w6 ⟨q2, rfl, hq2', bq2', hxq2⟩; have hq2 : W5.heap.size ≤ q2 := hq2'; have bq2 : Below W5.heap.size W5 w6 := (by first | exact bq2' | exact ((Below.refl _ W5).drew).trans bq2'); clear hq2' bq2'; have bA := (Below.refl _ w6).alloc (Nat.le_refl _) (.cells #[ptr q2] 35); have bAA : Below W5.heap.size W5 (w6.alloc (.cells #[ptr q2] 35)) := bq2.trans (bA.mono bq2.size); have hB6 := HB3.out.call bAA; obtain ⟨gb, cb, wB, a2, oB, gB⟩ := run_appR 30 w.heap.size _ [] q2 w6.heap.size hB6.R.own (heap_alloc_new _ _) hB6.bel.size (by simp); obtain ⟨hB7, rb7⟩ := HB3.out.addR bAA hq2 (rt_kept hxq2 (Grew.of_below bA none) (by simp)) oB gB; simp only [List.length_nil, Nat.zero_add] at a2 hB7; have HB7 := Lib.hid hB7; have v1 := (HB3.out.box.below bq2 HB3.out.box.lt).cell 1; have v2 := (HB3.out.box.below bAA HB3.out.box.lt).cell 1; have v3 := rb7.cell 1; have v4 := rb7.free 1; clear hB6 hB7 oB gB rb7 bA bAA bq2 hxq2 hq2))
  all_goals go_wp2_with fail
  all_goals go_ret2
  all_goals exact ⟨bb, rfl, _, _, _, _, _, HB7.out, rfl, by simp, by simp, fun i => by rw [List.nil_append, show ([⟨#[]⟩] : List ByteArray).getD i ⟨#[]⟩ = ⟨#[]⟩ by cases i <;> simp]; exact Nat.le_refl _⟩
/-! ### the script -/
abbrev Op := Int × Int × ByteArray
abbrev op0 : Op := (0, 0, ⟨#[]⟩)
def Ops (w : World) (A : Option Addr) (n : Nat) (l : List Op) : Prop :=
  l.length = n ∧ (0 < n → ∃ ad, A = some ad ∧ ad.block < w.heap.size ∧ ∀ i, i < n → w.cell? (ad.add (i * 3)) = some (.int .i64 (l.getD i op0).1) ∧ w.cell? (ad.add (i * 3 + 1)) = some (.int .i64 (l.getD i op0).2.1) ∧ w.cell? (ad.add (i * 3 + 2)) = some (.string (l.getD i op0).2.2))
theorem Ops.below {w wx : World} {A : Option Addr} {n : Nat} {l : List Op} (h : Ops w A n l) (hb : Below w.heap.size w wx) : Ops wx A n l := ⟨h.1, fun hn => by
  obtain ⟨ad, rfl, hlt, hc⟩ := h.2 hn
  have ab : ∀ j, (ad.add j).block = ad.block := fun j => by unfold Addr.add; split <;> rfl
  exact ⟨ad, rfl, Nat.lt_of_lt_of_le hlt hb.size, fun i hi => ⟨(hb.cell (by rw [ab]; exact hlt)).trans (hc i hi).1, (hb.cell (by rw [ab]; exact hlt)).trans (hc i hi).2.1, (hb.cell (by rw [ab]; exact hlt)).trans (hc i hi).2.2⟩⟩⟩
theorem Ops.at3 {w : World} {A : Option Addr} {n : Nat} {l : List Op} (h : Ops w A n l) (i : Nat) (hi : i < n) : ∃ ad X, A = some ad ∧ ad.add (i * 3) = X ∧ w.cell? X = some (.int .i64 (l.getD i op0).1) ∧ w.cell? ⟨X.block, X.off + 1, none⟩ = some (.int .i64 (l.getD i op0).2.1) ∧ w.cell? ⟨X.block, X.off + 2, none⟩ = some (.string (l.getD i op0).2.2) := by
  obtain ⟨ad, rfl, hlt, hc⟩ := h.2 (by omega)
  obtain ⟨h1, h2, h3⟩ := hc i hi
  have aa : ∀ j k, (ad.add j).add k = ad.add (j + k) := fun j k => by
    unfold Addr.add
    by_cases hi : j = 0 <;> by_cases hj : k = 0 <;> simp [hi, hj, Nat.add_assoc]
  refine ⟨ad, _, rfl, rfl, h1, ?_, ?_⟩
  · rw [← aa] at h2; exact h2
  · rw [← aa] at h3; exact h3
set_option maxRecDepth 100000 in
set_option maxHeartbeats 8000000 in
theorem history_in (A : Option Addr) (n c : Nat) (l : List Op) (w : World) (hS : Ops w A n l) (hn : n ≤ 1048576) (hu : ∀ o ∈ l, o.2.2.size ≤ 1048576) (hT : Tab w) (hR : RTab w) :
    Calls Tryd.prog 3 #[.slice A n c] w (fun e w' => e = .returned (.bool true) ∧ Below w.heap.size w w') := by
  have HBG := Lib.hid (begun_calls w hT)
  have HS := Lib.hid hS
  have HU := Lib.hid hu
  have HT := Lib.hid hT
  have HR := Lib.hid hR
  clear hS hu hT hR
  go_enter Tryd.func3, Tryd.ntmps3
  go_wp2_with fail
  refine HBG.out.mono ?_
  rintro e w1 ⟨bb, rfl, ok1⟩
  have HO1 := Lib.hid ok1
  clear ok1
  go_wp2_with fail
  go_loopw [5] (fun s5 wr => ∃ j : Nat, s5 = .int .i64 (j : Int) ∧ j ≤ n ∧ Hid (Ok w bb (j * 1048576) wr)) (fun s5 _ => n - (intOf s5).toNat)
  case atStart => exact ⟨0, rfl, Nat.zero_le _, Lib.hid (by rw [Nat.zero_mul]; exact HO1.out)⟩
  case round =>
    clear HO1
    obtain ⟨j, rfl, hj, hr⟩ := hrel
    by_cases hlt : j < n
    · have hbel : Below w.heap.size w wr := by obtain ⟨_, _, _, _, _, h1, _⟩ := hr.out; exact h1.bel
      obtain ⟨ad, X, rfl, hX, x0, x1, x2⟩ := (HS.out.below hbel).at3 j hlt
      have hsz : (l.getD j op0).2.2.size ≤ 1048576 := by
        rw [List.getD_eq_getElem?_getD, List.getElem?_eq_getElem (by rw [HS.out.1]; exact hlt)]
        exact HU.out _ (List.getElem_mem _)
      have HD := Lib.hid (does_calls w bb (j * 1048576) (l.getD j op0).1 (l.getD j op0).2.1 (l.getD j op0).2.2 wr hr.out (Nat.le_trans (Nat.add_le_add (Nat.mul_le_mul_right 1048576 (Nat.le_trans hj hn)) hsz) (by simp)) HT.out HR.out)
      have j0 : (0 : Int) ≤ (j : Int) := by omega
      have j1 : (j : Int) < (n : Int) := by omega
      have HSZ := Lib.hid hsz
      clear hbel hsz hr
      generalize (l.getD j op0).1 = y1 at *
      generalize (l.getD j op0).2.1 = y2 at *
      generalize (l.getD j op0).2.2 = y3 at *
      go_wp2_with fail
      refine HD.out.mono ?_
      rintro e w2 ⟨rfl, ok2⟩
      have HO2 : Hid (Ok w bb ((j + 1) * 1048576) w2) := Lib.hid (ok2.mono (by have := HSZ.out; rw [Nat.add_mul]; omega))
      clear ok2 x0 x1 x2
      go_wp2_with fail
      go_roundw
      case rel => exact ⟨j + 1, by go_num, by omega, HO2⟩
      case measure => simp only [intOf]; omega
    · obtain rfl : j = n := by omega
      obtain ⟨vP, vR, ps, rs, tp, hB, hlr, hn0, hn50, hz⟩ := hr.out
      obtain ⟨g1, c1, e1, _⟩ := own_ptrs hB.P.own hn0
      obtain ⟨g2, c2, e2, _⟩ := own_ptrs hB.R.own (by omega)
      rw [hlr] at e2
      obtain ⟨N, hN⟩ : ∃ N, ps.length = N := ⟨_, rfl⟩
      rw [hN] at e1 e2
      subst e1 e2
      have HB := Lib.hid hB
      have HN := Lib.hid hN
      have HLR := Lib.hid hlr
      have hN50 : N ≤ 50 := by omega
      have HZ : Hid (∀ i, (tp.getD i ⟨#[]⟩).size ≤ 1048576 * 1048576) := Lib.hid (fun i => Nat.le_trans (hz i) (Nat.mul_le_mul_right _ hn))
      clear hB hlr hn0 hn50 hz hN hr
      go_wp2_with fail
      go_loopw [6] (fun s6 wr => ∃ i : Nat, s6 = .int .i64 (i : Int) ∧ i ≤ N ∧ Hid (Bn w bb (.slice (some ⟨g1, 0, none⟩) N c1) (.slice (some ⟨g2, 0, none⟩) N c2) ps rs tp tp wr)) (fun s6 _ => N - (intOf s6).toNat)
      case atStart => exact ⟨0, rfl, Nat.zero_le _, HB⟩
      case round =>
        clear HB
        obtain ⟨i, rfl, hi, hr⟩ := hrel
        have d0 := hr.out.box.cell 0
        by_cases hil : i < N
        · have d1 := hr.out.box.cell 1
          obtain ⟨_, _, e1, k1⟩ := own_ptrs hr.out.P.own (by rw [HN.out]; omega)
          obtain ⟨_, _, e2, k2⟩ := own_ptrs hr.out.R.own (by rw [HLR.out, HN.out]; omega)
          simp only [Value.slice.injEq, Option.some.injEq, Addr.mk.injEq, and_true] at e1 e2
          obtain ⟨rfl, _, rfl⟩ := e1
          obtain ⟨rfl, _, rfl⟩ := e2
          have p0 := k1 i (by rw [HN.out]; exact hil)
          have r0 := k2 i (by rw [HLR.out, HN.out]; exact hil)
          have hxp := (hr.out.P.here i (by rw [HN.out]; exact hil)).2
          have hxr := (hr.out.R.here i (by rw [HLR.out, HN.out]; exact hil)).2
          have HXZ := Lib.hid (HZ.out i)
          generalize ps.getD i 0 = p at *
          generalize rs.getD i 0 = r at *
          generalize tp.getD i ⟨#[]⟩ = x at *
          have hXi1 : (⟨g1, 0, none⟩ : Addr).add i = ⟨g1, i, none⟩ := Arr.add_plain g1 i 0 |>.trans (by rw [Nat.zero_add])
          have hXi2 : (⟨g2, 0, none⟩ : Addr).add i = ⟨g2, i, none⟩ := Arr.add_plain g2 i 0 |>.trans (by rw [Nat.zero_add])
          have i0 : (0 : Int) ≤ (i : Int) := by omega
          have i1 : (i : Int) < (N : Int) := by omega
          have HS1 : Hid (∀ W, Below wr.heap.size wr W → Calls Tryd.prog 17 #[ptr p] W (Gives (dig x) W)) := Lib.hid (fun W hW => sumT W ((HT.out.below hr.out.bel).below hW) p x (hxp.below hW) (by have := HXZ.out; omega))
          have HS2 : Hid (∀ W, Below wr.heap.size wr W → Calls Tryd.prog 18 #[ptr r] W (Gives (dig x) W)) := Lib.hid (fun W hW => rsumT W ((HR.out.below hr.out.bel).below hW) r x (rt_kept hxr (Grew.of_below hW none) (by simp)) (by have := HXZ.out; omega))
          have HS3 : Hid (∀ W, Below wr.heap.size wr W → Calls Tryd.prog 19 #[ptr p] W (fun e w' => e = .returned (.int .i64 (x.size : Int)) ∧ W = w')) := Lib.hid (fun W hW => lenT W p x (hxp.below hW))
          have HS4 : Hid (∀ W, Below wr.heap.size wr W → Calls Tryd.prog 20 #[ptr r] W (fun e w' => e = .returned (.int .i64 (x.size : Int)) ∧ W = w')) := Lib.hid (fun W hW => rlenT W r x (rt_kept hxr (Grew.of_below hW none) (by simp)))
          have HC : Hid (∀ W, Below wr.heap.size wr W → Below wr.heap.size wr W ∧ W.cell? ⟨bb, 0, none⟩ = some (.slice (some ⟨g1, 0, none⟩) N c1) ∧ W.cell? ⟨bb, 1, none⟩ = some (.slice (some ⟨g2, 0, none⟩) N c2) ∧ W.cell? ⟨g1, i, none⟩ = some (ptr p) ∧ W.cell? ⟨g2, i, none⟩ = some (ptr r)) := Lib.hid (fun W hW => by
            have hb := hr.out.box.below hW hr.out.box.lt
            refine ⟨hW, hb.cell 0, hb.cell 1, (hW.cell (World.block_lt_of_cell? wr _ p0)).trans p0, (hW.cell (World.block_lt_of_cell? wr _ r0)).trans r0⟩)
          have HBR := Lib.hid hr.out
          have B0 : Below wr.heap.size wr wr := Below.refl _ _
          clear k1 k2 hxp hxr hr
          go_wp2_with fail
          go_region_held3 (fun W => Below wr.heap.size wr W ∧ W.cell? ⟨bb, 0, none⟩ = some (.slice (some ⟨g1, 0, none⟩) N c1) ∧ W.cell? ⟨bb, 1, none⟩ = some (.slice (some ⟨g2, 0, none⟩) N c2) ∧ W.cell? ⟨g1, i, none⟩ = some (ptr p) ∧ W.cell? ⟨g2, i, none⟩ = some (ptr r)) (first | exact HC.out _ (by assumption) | exact HC.out _ (Below.drew (by assumption)))
            (first
            | (go_at_call 17; (with_reducible refine (HS1.out _ (by first | assumption | exact Below.drew (by assumption))).mono ?_); rintro e w5 ⟨rfl, C5⟩; have B5 : Below wr.heap.size wr w5 := (by first | exact chain (by assumption) C5 | exact chain (Below.drew B0) C5); clear C5; obtain ⟨_, z1, z2, z3, z4⟩ := HC.out _ B5)
            | (go_at_call 18; (with_reducible refine (HS2.out _ (by first | assumption | exact Below.drew (by assumption))).mono ?_); rintro e w6 ⟨rfl, C6⟩; have B6 : Below wr.heap.size wr w6 := (by first | exact chain B5 C6 | exact chain (by assumption) C6 | exact chain (Below.drew B0) C6); clear C6; obtain ⟨_, y1, y2, y3, y4⟩ := HC.out _ B6)
            | (go_at_call 19; (with_reducible refine (HS3.out _ (by first | assumption | exact Below.drew (by assumption))).mono ?_); rintro e w7 ⟨rfl, rfl⟩)
            | (go_at_call 20; (with_reducible refine (HS4.out _ (by first | assumption | exact Below.drew (by assumption))).mono ?_); rintro e w8 ⟨rfl, rfl⟩))
          all_goals go_wp2_with fail
          all_goals
            go_roundw
            case rel => exact ⟨i + 1, by go_num, by omega, Lib.hid (HBR.out.call B6)⟩
            case measure => simp only [intOf]; omega
        · obtain rfl : i = N := by omega
          have HEND := Lib.hid hr.out.bel
          clear hr
          go_wp2_with fail
          go_ret
          exact ⟨rfl, HEND.out⟩
theorem shaHistory_walk (A : Option Addr) (n c : Nat) (l : List Op) (w : World) (hS : Ops w A n l) (u1 : ∀ o ∈ l, o.2.2.size ≤ 1048576) (u2 : n ≤ 1048576)
    (h1 : ∀ i : Nat, i < 8 → w.cell? ⟨0, i, none⟩ = some (.int .u32 ((I0.list.map fun x : Nat => (x : Int)).getD i 0))) (h2 : ∀ i : Nat, i < 64 → w.cell? ⟨2, i, none⟩ = some (.int .u32 ((K0.map fun x : Nat => (x : Int)).getD i 0)))
    (h3 : ∀ i : Nat, i < 8 → w.cell? ⟨1, i, none⟩ = some (.int .u32 ((I0.list.map fun x : Nat => (x : Int)).getD i 0))) (h4 : ∀ i : Nat, i < 64 → w.cell? ⟨3, i, none⟩ = some (.int .u32 ((K0.map fun x : Nat => (x : Int)).getD i 0))) :
    Calls Tryd.prog 3 #[.slice A n c] w fun e w' => e = .returned (.bool true) ∧ Below w.heap.size w w' :=
  history_in A n c l w hS u2 u1 (tab_of h3 h4) (rtab_of h1 h2)
end Go.Proofs.YtkhcinnpfpkhnaaDoor.Hist
