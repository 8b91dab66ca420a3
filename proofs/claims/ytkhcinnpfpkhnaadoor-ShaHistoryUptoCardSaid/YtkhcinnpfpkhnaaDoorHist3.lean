/- ShaHistory: one call on both: its walk. -/
import Derived.Test.YtkhcinnpfpkhnaaDoorHist2
import Derived.Deep.RegionHeld3
import Derived.Deep.RegionLaw
set_option linter.unusedVariables false
set_option linter.unusedSimpArgs false
namespace Go.Proofs.YtkhcinnpfpkhnaaDoor.Hist
open Go.RowKit Go.Proofs.YtkhcinnpfpkhnaaDoor.Base Go.Proofs.YtkhcinnpfpkhnaaDoor.Mem Go.Proofs.YtkhcinnpfpkhnaaDoor.ShaDig Go.Proofs.YtkhcinnpfpkhnaaDoor.ShaLaws
attribute [-go_sem] Go.Builtin.append_

/-- The bench is in order: both hold the same texts, none longer than Z. -/
def Ok (w0 : World) (bb Z : Nat) (W : World) : Prop := ∃ vP vR ps rs tp, Bn w0 bb vP vR ps rs tp tp W ∧ rs.length = ps.length ∧ 0 < ps.length ∧ ps.length ≤ 50 ∧ ∀ i, (tp.getD i ⟨#[]⟩).size ≤ Z
theorem Ok.call {w0 W W' : World} {bb Z : Nat} (h : Ok w0 bb Z W) (b : Below W.heap.size W W') : Ok w0 bb Z W' := by
  obtain ⟨vP, vR, ps, rs, tp, h1, h2⟩ := h
  exact ⟨vP, vR, ps, rs, tp, h1.call b, h2⟩
def Done (w0 : World) (bb Z : Nat) (e : Ending) (w' : World) : Prop := e = .returned (.bool true) ∧ Ok w0 bb Z w'
theorem size_set {tp : List ByteArray} {Z Z2 i : Nat} (h : ∀ j, (tp.getD j ⟨#[]⟩).size ≤ Z) {x : ByteArray} (hx : x.size ≤ Z2) (hz : Z ≤ Z2) : ∀ j, ((tp.set i x).getD j ⟨#[]⟩).size ≤ Z2 := fun j => by
  rw [set_getD]; split
  · exact hx
  · exact Nat.le_trans (h j) hz
theorem size_add {tp : List ByteArray} {Z Z2 : Nat} (h : ∀ j, (tp.getD j ⟨#[]⟩).size ≤ Z) {x : ByteArray} (hx : x.size ≤ Z2) (hz : Z ≤ Z2) : ∀ j, ((tp ++ [x]).getD j ⟨#[]⟩).size ≤ Z2 := fun j => by
  rw [getD_snoc]; split
  · exact Nat.le_trans (h j) hz
  · split
    · exact hx
    · exact Nat.zero_le _
set_option maxRecDepth 100000 in
set_option maxHeartbeats 8000000 in
theorem does_calls (w0 : World) (bb Z : Nat) (kind on : Int) (t : ByteArray) (w : World) (h : Ok w0 bb Z w) (hZ : Z + t.size ≤ 100000000000000) (hT : Tab w0) (hR : RTab w0) :
    Calls Tryd.prog 16 #[ptr bb, .agg #[.int .i64 kind, .int .i64 on, .string t]] w (Done w0 bb (Z + t.size)) := by
  obtain ⟨vP, vR, ps, rs, tp, hB, hlr, hn, hn50, hz⟩ := h
  have bA : Below w.heap.size w (w.alloc (.cells #[.int .i64 kind, .int .i64 on, .string t] 28)) := (Below.refl _ w).alloc (Nat.le_refl _) _
  have hB1 := hB.call bA
  have rO := Row.new w #[.int .i64 kind, .int .i64 on, .string t] 28
  obtain ⟨W1, hW1⟩ : ∃ W1, w.alloc (.cells #[.int .i64 kind, .int .i64 on, .string t] 28) = W1 := ⟨_, rfl⟩
  rw [hW1] at hB1 rO bA
  obtain ⟨g1, c1, e1, k1⟩ := own_ptrs hB1.P.own hn
  obtain ⟨g2, c2, e2, k2⟩ := own_ptrs hB1.R.own (by omega)
  rw [hlr] at e2 k2
  have HB := Lib.hid hB1
  have HZ := Lib.hid hz
  have HT := Lib.hid hT
  have HR := Lib.hid hR
  have HLR := Lib.hid hlr
  subst e1 e2
  obtain ⟨n, hnn⟩ : ∃ n, ps.length = n := ⟨_, rfl⟩
  rw [hnn] at HB hn hn50 k1 k2 hB1
  have HN := Lib.hid hnn
  have HAT := Lib.hid (fun W (r : Row W bb _ _) => at_calls bb (some ⟨g1, 0, none⟩) n c1 (.slice (some ⟨g2, 0, none⟩) n c2) on W r hn hn50)
  have HRB := Lib.hid hB1.box
  have HRO := Lib.hid rO
  have HK1 := Lib.hid k1
  have HK2 := Lib.hid k2
  have o0 := rO.cell 0
  have o1 := rO.cell 1
  have o2 := rO.cell 2
  have b0 := hB1.box.cell 0
  have b1 := hB1.box.cell 1
  clear hB hB1 hlr hz hT hR hnn bA rO k1 k2
  go_enter Tryd.func16, Tryd.ntmps16
  go_wp2_with fail
  try rw [hW1]
  clear hW1
  refine (HAT.out _ HRB.out).mono ?_
  rintro e _ ⟨i, hi, rfl, rfl⟩
  have p0 := HK1.out i hi
  have r0 := HK2.out i hi
  have hxp := (HB.out.P.here i (by rw [HN.out]; exact hi)).2
  have hxr := (HB.out.R.here i (by rw [HLR.out, HN.out]; exact hi)).2
  have HXZ := Lib.hid (HZ.out i)
  have HIP : Hid (i < ps.length) := Lib.hid (by rw [HN.out]; exact hi)
  have HIR : Hid (i < rs.length) := Lib.hid (by rw [HLR.out, HN.out]; exact hi)
  have HPE : Hid (ps.getD i 0 = ps.getD i 0) := Lib.hid rfl
  obtain ⟨p, hp⟩ : ∃ p, ps.getD i 0 = p := ⟨_, rfl⟩
  obtain ⟨r, hr⟩ : ∃ r, rs.getD i 0 = r := ⟨_, rfl⟩
  obtain ⟨x, hx⟩ : ∃ x, tp.getD i ⟨#[]⟩ = x := ⟨_, rfl⟩
  have HP := Lib.hid hp
  have HRR := Lib.hid hr
  have HX := Lib.hid hx
  rw [hp] at p0 hxp
  rw [hr] at r0 hxr
  rw [hx] at hxp hxr HXZ
  have HXP := Lib.hid hxp
  have HXR := Lib.hid hxr
  have hXi1 : (⟨g1, 0, none⟩ : Addr).add i = ⟨g1, i, none⟩ := Arr.add_plain g1 i 0 |>.trans (by rw [Nat.zero_add])
  have hXi2 : (⟨g2, 0, none⟩ : Addr).add i = ⟨g2, i, none⟩ := Arr.add_plain g2 i 0 |>.trans (by rw [Nat.zero_add])
  have i0 : (0 : Int) ≤ (i : Int) := by omega
  have i1 : (i : Int) < (n : Int) := by omega
  have HOK : Hid (Ok w0 bb (Z + t.size) W1) := Lib.hid ⟨_, _, _, _, _, HB.out, HLR.out, by rw [HN.out]; exact hn, by rw [HN.out]; exact hn50, fun j => Nat.le_trans (HZ.out j) (by omega)⟩
  have HTW : Hid (Tab W1 ∧ RTab W1) := Lib.hid ⟨HT.out.below HB.out.bel, HR.out.below HB.out.bel⟩
  clear hp hr hx hxp hxr HAT HK1 HK2 HPE
  by_cases hk1 : kind = 1
  · subst hk1
    have HWP : Hid (∀ W, Below W1.heap.size W1 W → Calls Tryd.prog 24 #[ptr p, .string t] W (fun e w' => e = .returned (.int .i64 (t.size : Int)) ∧ Bn w0 bb (.slice (some ⟨g1, 0, none⟩) n c1) (.slice (some ⟨g2, 0, none⟩) n c2) ps rs (tp.set i (x ++ t)) tp w' ∧ Row w' w.heap.size #[.int .i64 1, .int .i64 on, .string t] 28)) := Lib.hid (fun W hW => by
      refine (writeT W (HTW.out.1.below hW) p x (HXP.out.below hW) t (by have := HXZ.out; omega)).mono ?_
      rintro e w' ⟨h1, h2, h3, _⟩
      obtain ⟨cs, rr⟩ := ht_row (HXP.out.below hW)
      have ro := HRO.out.below hW HRO.out.lt
      refine ⟨h1, (HB.out.call hW).wroteP HIP.out (by rw [HP.out]; exact h2) (by rw [HP.out]; exact h3), ?_⟩
      exact ro.kept h2 (fun e => by injection e with e; exact ne_of_type ro rr (by decide) e))
    have HWR : Hid (∀ W, Bn w0 bb (.slice (some ⟨g1, 0, none⟩) n c1) (.slice (some ⟨g2, 0, none⟩) n c2) ps rs (tp.set i (x ++ t)) tp W → Row W w.heap.size #[.int .i64 1, .int .i64 on, .string t] 28 → Calls Tryd.prog 40 #[ptr r, .string t] W (fun e w' => e = .returned (.int .i64 (t.size : Int)) ∧ Ok w0 bb (Z + t.size) w' ∧ w'.cell? ⟨w.heap.size, 2, none⟩ = some (.string t))) := Lib.hid (fun W hW ro => by
      have hrx := (hW.R.here i HIR.out).2
      rw [HRR.out, HX.out] at hrx
      refine (rwriteT W r x t hrx (by have := HXZ.out; omega)).mono ?_
      rintro e w' ⟨h1, h2, h3⟩
      have hN := hW.wroteR HIR.out (by rw [HRR.out]; exact h2) (by rw [HRR.out]; exact h3)
      obtain ⟨cs, rr⟩ := rt_row hrx
      refine ⟨h1, ⟨_, _, _, _, _, hN, HLR.out, by rw [HN.out]; exact hn, by rw [HN.out]; exact hn50, size_set HZ.out ?_ (by omega)⟩, (ro.kept h2 (fun e => by injection e with e; exact ne_of_type ro rr (by decide) e)).cell 2⟩
      rw [ByteArray.size_append]; have := HXZ.out; omega)
    clear HOK HXP HXR HTW
    go_wp2_with fail
    go_region_held3 (fun W => W.cell? ⟨w.heap.size, 2, none⟩ = some (.string t)) (first | go_keep | assumption) (first
      | (go_at_call 24; (with_reducible refine (HWP.out _ (by first | exact Below.refl _ _ | exact (Below.refl _ _).drew)).mono ?_); rintro e w2 ⟨rfl, B2, R2⟩; have ck2 := R2.cell 2; have HB2 := Lib.hid B2; have HR2 := Lib.hid R2; clear B2 R2)
      | (go_at_call 40; (with_reducible refine (HWR.out _ (by first | exact HB2.out | exact HB2.out.call ((Below.refl _ _).drew)) (by first | exact HR2.out | exact HR2.out.drew)).mono ?_); rintro e w3 ⟨rfl, K3, ck3⟩; have HK3 := Lib.hid K3; clear K3))
    all_goals go_wp2_with fail
    all_goals go_ret
    all_goals exact ⟨by simp, HK3.out⟩
  by_cases hk2 : kind = 2
  · subst hk2
    have HS1 := Lib.hid (sumT W1 HTW.out.1 p x HXP.out (by have := HXZ.out; omega))
    have HS2 : Hid (∀ W, Below W1.heap.size W1 W → Calls Tryd.prog 18 #[ptr r] W (Gives (dig x) W)) := Lib.hid (fun W hW => rsumT W (HTW.out.2.below hW) r x (rt_kept HXR.out (Grew.of_below hW none) (by simp)) (by have := HXZ.out; omega))
    clear HXP HXR HTW hk1
    go_wp2_with fail
    refine HS1.out.mono ?_
    rintro e w2 ⟨rfl, b2⟩
    have HO2 := Lib.hid (HOK.out.call b2)
    go_wp2_with fail
    refine (HS2.out _ b2).mono ?_
    rintro e w3 ⟨rfl, b3⟩
    have HO3 := Lib.hid (HO2.out.call b3)
    clear b2 b3 HO2
    go_wp2_with fail
    go_ret
    exact ⟨by simp, HO3.out⟩
  by_cases hk3 : kind = 3
  · subst hk3
    have HS1 := Lib.hid (lenT W1 p x HXP.out)
    have HS2 := Lib.hid (rlenT W1 r x HXR.out)
    clear HXP HXR HTW hk1 hk2
    go_wp2_with fail
    refine HS1.out.mono ?_
    rintro e _ ⟨rfl, rfl⟩
    go_wp2_with fail
    refine HS2.out.mono ?_
    rintro e _ ⟨rfl, rfl⟩
    go_wp2_with fail
    go_ret
    exact ⟨by simp, HOK.out⟩
  by_cases hk5 : kind = 5
  · subst hk5
    have HS1 := Lib.hid (resetT W1 HTW.out.1 p x HXP.out)
    clear HXP HTW hk1 hk2 hk3
    go_wp2_with fail
    refine HS1.out.mono ?_
    rintro e w2 ⟨rfl, h2, h3, _⟩
    have hB2 := HB.out.wroteP HIP.out (by rw [HP.out]; exact h2) (by rw [HP.out]; exact h3)
    have hrx := (hB2.R.here i HIR.out).2
    rw [HRR.out, HX.out] at hrx
    have HS2 := Lib.hid (rresetT w2 r x hrx)
    have HB2 := Lib.hid hB2
    clear h2 h3 hB2 hrx HXR
    go_wp2_with fail
    refine HS2.out.mono ?_
    rintro e w3 ⟨rfl, h2, h3⟩
    have hB3 := HB2.out.wroteR HIR.out (by rw [HRR.out]; exact h2) (by rw [HRR.out]; exact h3)
    have HO3 : Hid (Ok w0 bb (Z + t.size) w3) := Lib.hid ⟨_, _, _, _, _, hB3, HLR.out, by rw [HN.out]; exact hn, by rw [HN.out]; exact hn50, size_set HZ.out (Nat.zero_le _) (by omega)⟩
    clear h2 h3 hB3
    go_wp2_with fail
    go_ret
    exact ⟨by simp, HO3.out⟩
  by_cases hk4 : kind = 4
  · subst hk4
    by_cases h50 : n = 50
    · have h50' : (50 : Int) ≤ (n : Int) := by omega
      clear HXP HXR HTW hk1 hk2 hk3 hk5
      go_wp2_with fail
      go_ret
      exact ⟨by simp, HOK.out⟩
    · have h50' : ¬ (50 : Int) ≤ (n : Int) := by omega
      have d50 : decide ((50 : Int) ≤ (n : Int)) = false := decide_eq_false h50'
      have HCP := Lib.hid (copyT W1 HTW.out.1 p x HXP.out)
      clear HXP HXR HTW hk1 hk2 hk3 hk5
      go_wp2_with fail
      refine HCP.out.mono ?_
      rintro e w2 ⟨q, rfl, hq, bq, hxq⟩
      have bA : Below w2.heap.size w2 (w2.alloc (.cells #[ptr q] 33)) := (Below.refl _ w2).alloc (Nat.le_refl _) _
      have bAA : Below W1.heap.size W1 (w2.alloc (.cells #[ptr q] 33)) := bq.trans (bA.mono bq.size)
      have hB2 := HB.out.call bAA
      obtain ⟨ga, ca, wA, a1, oA, gA⟩ := run_appP 29 w0.heap.size _ ps q w2.heap.size hB2.P.own (heap_alloc_new _ _) hB2.bel.size (by have := HN.out; omega)
      obtain ⟨hB3, rb3⟩ := HB.out.addP bAA hq (hxq.below bA) oA gA
      rw [HN.out] at a1 hB3
      have rq := HRB.out.below bq HRB.out.lt
      have u0 := rq.cell 0
      have u1 := (rq.below bA rq.lt).cell 0
      have u2 := rb3.cell 0
      have u3 := rb3.free 0
      have HB3 := Lib.hid hB3
      clear hB2 oA gA rq rb3 hB3 bAA bA hxq hq bq b0 b1 p0 r0 HRB
      go_wp2_with fail
      obtain ⟨W5, hW5⟩ : ∃ W5, wA.setCell ⟨bb, 0, none⟩ (.slice (some ⟨ga, 0, none⟩) (n + 1) ca) = W5 := ⟨_, rfl⟩
      rw [hW5] at HB3 ⊢
      clear hW5 u0 u1 u2 u3 a1
      have HRC : Hid (∀ W, Below W5.heap.size W5 W → Calls Tryd.prog 41 #[ptr r] W (fun e w' => ∃ q, e = .returned (ptr q) ∧ W.heap.size ≤ q ∧ Below W.heap.size W w' ∧ RT w' q x)) := Lib.hid (fun W hW => by
        have hrx := ((HB3.out.call hW).R.here i HIR.out).2
        rw [HRR.out, HX.out] at hrx
        exact rcopyT W r x hrx)
      have u1 := HB3.out.box.cell 1
      go_region_law ((first | go_simp | skip); (go_at_call 41; (with_reducible refine (HRC.out _ (by first | exact Below.refl _ _ | exact (Below.refl _ _).drew)).mono ?_); rintro e w6 ⟨q2, rfl, hq2', bq2', hxq2⟩; have hq2 : W5.heap.size ≤ q2 := hq2'; have bq2 : Below W5.heap.size W5 w6 := (by first | exact bq2' | exact ((Below.refl _ W5).drew).trans bq2'); clear hq2' bq2'; have bA := (Below.refl _ w6).alloc (Nat.le_refl _) (.cells #[ptr q2] 35); have bAA : Below W5.heap.size W5 (w6.alloc (.cells #[ptr q2] 35)) := bq2.trans (bA.mono bq2.size); have hB6 := HB3.out.call bAA; obtain ⟨gb, cb, wB, a2, oB, gB⟩ := run_appR 30 w0.heap.size _ rs q2 w6.heap.size hB6.R.own (heap_alloc_new _ _) hB6.bel.size (by have := HN.out; have := HLR.out; omega); obtain ⟨hB7, rb7⟩ := HB3.out.addR bAA hq2 (rt_kept hxq2 (Grew.of_below bA none) (by simp)) oB gB; rw [HLR.out, HN.out] at a2 hB7; have HB7 := Lib.hid hB7; have v1 := (HB3.out.box.below bq2 HB3.out.box.lt).cell 1; have v2 := (HB3.out.box.below bAA HB3.out.box.lt).cell 1; have v3 := rb7.cell 1; have v4 := rb7.free 1; clear hB6 hB7 oB gB rb7 bA bAA bq2 hxq2 hq2))
      all_goals go_wp2_with fail
      all_goals go_ret
      all_goals exact ⟨by simp, _, _, _, _, _, HB7.out, by simp [HLR.out], by simp, by simp [HN.out]; omega, size_add HZ.out (by have := HXZ.out; omega) (by omega)⟩
  · have n1 : (kind == 1) = false := by rw [beq_eq_false_iff_ne]; exact hk1
    have n2 : (kind == 2) = false := by rw [beq_eq_false_iff_ne]; exact hk2
    have n3 : (kind == 3) = false := by rw [beq_eq_false_iff_ne]; exact hk3
    have n4 : (kind == 4) = false := by rw [beq_eq_false_iff_ne]; exact hk4
    have n5 : (kind == 5) = false := by rw [beq_eq_false_iff_ne]; exact hk5
    clear HXP HXR HTW
    go_wp2_with fail
    go_ret
    exact ⟨by simp, HOK.out⟩
end Go.Proofs.YtkhcinnpfpkhnaaDoor.Hist
