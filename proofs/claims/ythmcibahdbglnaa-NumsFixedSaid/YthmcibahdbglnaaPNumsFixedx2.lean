-- PRINTED BY print.sh 35421559b90ae4d0a3588c463048766b98c2df88dd9212a6774a882060cdf62d: not written by this session
import Derived.Test.YthmcibahdbglnaaPNumsFixedx0
import Derived.Test.YthmcibahdbglnaaPNumsFixedx1
namespace Go.Proofs.Ythmcibahdbglnaa.PNumsFixed
open Go.RowKit Go.Proofs.YthmcibahdbglnaaW.PrintWords Go.Proofs.YthmcibahdbglnaaW.PrintLast Go.Proofs.YthmcibahdbglnaaW.PrintMore
attribute [local go_sem] max2_int min2_int max_two min_two max_three min_three max_four min_four   -- for this text's walks alone
set_option linter.unusedVariables false
set_option linter.unusedSimpArgs false

/-! ### annalslaw1_NumsFixed: function 6 -/
mutual
def annalslaw1_NumsFixed.j0 : Nat → Int → Int → ByteArray → ByteArray → Int → ByteArray → Int → ByteArray → Int → Bool → Option (Bool)
  | 0, _, _, _, _, _, _, _, _, _, _ => none
  | k + 1, x0, x1, x3, x4, x11, x12, x13, x14, x15, x16 => if x11 = 8 then (annalslaw1_NumsFixed.j1 k x0 x1 x3 x4 x11 x12 x13 x14 x15 x16 true) else (if 0 ≤ (IntKind.u64.wrap (wrap64 (8 * x11))) then (annalslaw1_NumsFixed.j1 k x0 x1 x3 x4 x11 x12 x13 x14 x15 x16 (decide (x1 < (shl .u64 1 (IntKind.u64.wrap (wrap64 (8 * x11))))))) else (none))
def annalslaw1_NumsFixed.j1 : Nat → Int → Int → ByteArray → ByteArray → Int → ByteArray → Int → ByteArray → Int → Bool → Bool → Option (Bool)
  | 0, _, _, _, _, _, _, _, _, _, _, _ => none
  | k + 1, x0, x1, x3, x4, x11, x12, x13, x14, x15, x16, x17 => if x16 = true then (if x3.size + x12.size ≤ 9223372036854775807 then (if (x3 ++ x12).size + x4.size ≤ 9223372036854775807 then ((nums_BE.f k ((x3 ++ x12) ++ x4) (x3.size : Int) x11).bind fun bt111 => (if x13 = 0 then (if (x12.size : Int) = x11 then (if bt111.1 = x0 then (annalslaw1_NumsFixed.j2 k x0 x1 x12 x14 x15 x17 (bt111.2 != 0)) else (annalslaw1_NumsFixed.j2 k x0 x1 x12 x14 x15 x17 true)) else (annalslaw1_NumsFixed.j2 k x0 x1 x12 x14 x15 x17 true)) else (annalslaw1_NumsFixed.j2 k x0 x1 x12 x14 x15 x17 true))) else (none)) else (none)) else (if x12.toList = ([] : List UInt8) then (some (x13 == 11)) else (some false))
def annalslaw1_NumsFixed.j2 : Nat → Int → Int → ByteArray → ByteArray → Int → Bool → Bool → Option (Bool)
  | 0, _, _, _, _, _, _, _ => none
  | k + 1, x0, x1, x12, x14, x15, x17, x90 => if x90 = true then (some false) else (if x17 = true then (if x15 = 0 then (if ((Op.bytesLess x12.toList x14.toList) == (decide (x0 < x1))) = true then (some ((x12.toList == x14.toList) == (x0 == x1))) else (some false)) else (some false)) else (if x14.toList = ([] : List UInt8) then (some (x15 == 11)) else (some false)))
end
def annalslaw1_NumsFixed.f (k : Nat) (a0 : Int) (a1 : Int) (a2 : Int) (a3 : ByteArray) (a4 : ByteArray) : Option (Bool) := (annalslaw1_size.f a2).bind fun t106 => ((nums_PutBE.f k a0 t106).bind fun bt107 => ((nums_PutBE.f k a1 t106).bind fun bt109 => (if t106 = 8 then (annalslaw1_NumsFixed.j0 k a0 a1 a3 a4 t106 bt107.1 bt107.2 bt109.1 bt109.2 true) else (if 0 ≤ (IntKind.u64.wrap (wrap64 (8 * t106))) then (annalslaw1_NumsFixed.j0 k a0 a1 a3 a4 t106 bt107.1 bt107.2 bt109.1 bt109.2 (decide (a0 < (shl .u64 1 (IntKind.u64.wrap (wrap64 (8 * t106))))))) else (none)))))
theorem annalslaw1_NumsFixed.mono_l : ∀ k, (∀ y0 y1 y2 y3 y4 y5 y6 y7 y8 y9, LeO (annalslaw1_NumsFixed.j0 k y0 y1 y2 y3 y4 y5 y6 y7 y8 y9) (annalslaw1_NumsFixed.j0 (k + 1) y0 y1 y2 y3 y4 y5 y6 y7 y8 y9)) ∧ (∀ y0 y1 y2 y3 y4 y5 y6 y7 y8 y9 y10, LeO (annalslaw1_NumsFixed.j1 k y0 y1 y2 y3 y4 y5 y6 y7 y8 y9 y10) (annalslaw1_NumsFixed.j1 (k + 1) y0 y1 y2 y3 y4 y5 y6 y7 y8 y9 y10)) ∧ (∀ y0 y1 y2 y3 y4 y5 y6, LeO (annalslaw1_NumsFixed.j2 k y0 y1 y2 y3 y4 y5 y6) (annalslaw1_NumsFixed.j2 (k + 1) y0 y1 y2 y3 y4 y5 y6))
  | 0 => ⟨fun _ _ _ _ _ _ _ _ _ _ r h => by simp [annalslaw1_NumsFixed.j0] at h, fun _ _ _ _ _ _ _ _ _ _ _ r h => by simp [annalslaw1_NumsFixed.j1] at h, fun _ _ _ _ _ _ _ r h => by simp [annalslaw1_NumsFixed.j2] at h⟩
  | k + 1 => by
    obtain ⟨ih0, ih1, ih2⟩ := annalslaw1_NumsFixed.mono_l k
    refine ⟨?_, ?_, ?_⟩
    · intro y0 y1 y2 y3 y4 y5 y6 y7 y8 y9
      unfold annalslaw1_NumsFixed.j0
      repeat' first
      | (with_reducible exact ih0 _ _ _ _ _ _ _ _ _ _)
      | (with_reducible exact ih1 _ _ _ _ _ _ _ _ _ _ _)
      | (with_reducible exact ih2 _ _ _ _ _ _ _)
      | (with_reducible exact nums_BE.mono _ _ _ _)
      | (with_reducible exact nums_PutBE.mono _ _ _)
      | (with_reducible exact LeO.refl _)
      | (with_reducible exact LeO.none _)
      | (with_reducible refine LeO.ite ?_ ?_)
      | (with_reducible refine LeO.bind ?_ (fun _ => ?_))
      | exact ih0 _ _ _ _ _ _ _ _ _ _
      | exact ih1 _ _ _ _ _ _ _ _ _ _ _
      | exact ih2 _ _ _ _ _ _ _
      | exact nums_BE.mono _ _ _ _
      | exact nums_PutBE.mono _ _ _
      | exact LeO.none _
      | refine LeO.ite ?_ ?_
      | refine LeO.bind ?_ (fun _ => ?_)
    · intro y0 y1 y2 y3 y4 y5 y6 y7 y8 y9 y10
      unfold annalslaw1_NumsFixed.j1
      repeat' first
      | (with_reducible exact ih0 _ _ _ _ _ _ _ _ _ _)
      | (with_reducible exact ih1 _ _ _ _ _ _ _ _ _ _ _)
      | (with_reducible exact ih2 _ _ _ _ _ _ _)
      | (with_reducible exact nums_BE.mono _ _ _ _)
      | (with_reducible exact nums_PutBE.mono _ _ _)
      | (with_reducible exact LeO.refl _)
      | (with_reducible exact LeO.none _)
      | (with_reducible refine LeO.ite ?_ ?_)
      | (with_reducible refine LeO.bind ?_ (fun _ => ?_))
      | exact ih0 _ _ _ _ _ _ _ _ _ _
      | exact ih1 _ _ _ _ _ _ _ _ _ _ _
      | exact ih2 _ _ _ _ _ _ _
      | exact nums_BE.mono _ _ _ _
      | exact nums_PutBE.mono _ _ _
      | exact LeO.none _
      | refine LeO.ite ?_ ?_
      | refine LeO.bind ?_ (fun _ => ?_)
    · intro y0 y1 y2 y3 y4 y5 y6
      unfold annalslaw1_NumsFixed.j2
      repeat' first
      | (with_reducible exact ih0 _ _ _ _ _ _ _ _ _ _)
      | (with_reducible exact ih1 _ _ _ _ _ _ _ _ _ _ _)
      | (with_reducible exact ih2 _ _ _ _ _ _ _)
      | (with_reducible exact nums_BE.mono _ _ _ _)
      | (with_reducible exact nums_PutBE.mono _ _ _)
      | (with_reducible exact LeO.refl _)
      | (with_reducible exact LeO.none _)
      | (with_reducible refine LeO.ite ?_ ?_)
      | (with_reducible refine LeO.bind ?_ (fun _ => ?_))
      | exact ih0 _ _ _ _ _ _ _ _ _ _
      | exact ih1 _ _ _ _ _ _ _ _ _ _ _
      | exact ih2 _ _ _ _ _ _ _
      | exact nums_BE.mono _ _ _ _
      | exact nums_PutBE.mono _ _ _
      | exact LeO.none _
      | refine LeO.ite ?_ ?_
      | refine LeO.bind ?_ (fun _ => ?_)
theorem annalslaw1_NumsFixed.mono : ∀ a0 a1 a2 a3 a4 k, LeO (annalslaw1_NumsFixed.f k a0 a1 a2 a3 a4) (annalslaw1_NumsFixed.f (k + 1) a0 a1 a2 a3 a4) := by
  intro a0 a1 a2 a3 a4 k
  obtain ⟨ih0, ih1, ih2⟩ := annalslaw1_NumsFixed.mono_l k
  unfold annalslaw1_NumsFixed.f
  repeat' first
      | (with_reducible exact ih0 _ _ _ _ _ _ _ _ _ _)
      | (with_reducible exact ih1 _ _ _ _ _ _ _ _ _ _ _)
      | (with_reducible exact ih2 _ _ _ _ _ _ _)
      | (with_reducible exact nums_BE.mono _ _ _ _)
      | (with_reducible exact nums_PutBE.mono _ _ _)
      | (with_reducible exact LeO.refl _)
      | (with_reducible exact LeO.none _)
      | (with_reducible refine LeO.ite ?_ ?_)
      | (with_reducible refine LeO.bind ?_ (fun _ => ?_))
      | exact ih0 _ _ _ _ _ _ _ _ _ _
      | exact ih1 _ _ _ _ _ _ _ _ _ _ _
      | exact ih2 _ _ _ _ _ _ _
      | exact nums_BE.mono _ _ _ _
      | exact nums_PutBE.mono _ _ _
      | exact LeO.none _
      | refine LeO.ite ?_ ?_
      | refine LeO.bind ?_ (fun _ => ?_)
set_option maxHeartbeats 8000000 in
set_option maxRecDepth 100000 in
theorem annalslaw1_NumsFixed.calls (k : Nat) (a0 : Int) (a1 : Int) (a2 : Int) (a3 : ByteArray) (a4 : ByteArray) (r : Bool) (w : World) (h : annalslaw1_NumsFixed.f k a0 a1 a2 a3 a4 = some r) :
    Calls Try.prog 6 #[.int .u64 a0, .int .u64 a1, .int .i64 a2, .string a3, .string a4] w fun e w' => e = .returned (.bool r) ∧ Below w.heap.size w w' := by
  have HB := Aside0.mk (Below.refl w.heap.size w)
  have H : ((annalslaw1_size.f a2).bind fun t106 => ((nums_PutBE.f k a0 t106).bind fun bt107 => ((nums_PutBE.f k a1 t106).bind fun bt109 => (if t106 = 8 then (annalslaw1_NumsFixed.j0 k a0 a1 a3 a4 t106 bt107.1 bt107.2 bt109.1 bt109.2 true) else (if 0 ≤ (IntKind.u64.wrap (wrap64 (8 * t106))) then (annalslaw1_NumsFixed.j0 k a0 a1 a3 a4 t106 bt107.1 bt107.2 bt109.1 bt109.2 (decide (a0 < (shl .u64 1 (IntKind.u64.wrap (wrap64 (8 * t106))))))) else (none)))))) = some r := h
  clear h
  replace H := Option.bind_eq_some_iff.mp H
  obtain ⟨t106, A60, H⟩ := H
  replace H : ((nums_PutBE.f k a0 t106).bind fun bt107 => ((nums_PutBE.f k a1 t106).bind fun bt109 => (if t106 = 8 then (annalslaw1_NumsFixed.j0 k a0 a1 a3 a4 t106 bt107.1 bt107.2 bt109.1 bt109.2 true) else (if 0 ≤ (IntKind.u64.wrap (wrap64 (8 * t106))) then (annalslaw1_NumsFixed.j0 k a0 a1 a3 a4 t106 bt107.1 bt107.2 bt109.1 bt109.2 (decide (a0 < (shl .u64 1 (IntKind.u64.wrap (wrap64 (8 * t106))))))) else (none))))) = some r := H
  have A6 := Aside0.mk A60
  clear A60
  replace H := Option.bind_eq_some_iff.mp H
  obtain ⟨⟨t107, t108⟩, A70, H⟩ := H
  replace H : ((nums_PutBE.f k a1 t106).bind fun bt109 => (if t106 = 8 then (annalslaw1_NumsFixed.j0 k a0 a1 a3 a4 t106 t107 t108 bt109.1 bt109.2 true) else (if 0 ≤ (IntKind.u64.wrap (wrap64 (8 * t106))) then (annalslaw1_NumsFixed.j0 k a0 a1 a3 a4 t106 t107 t108 bt109.1 bt109.2 (decide (a0 < (shl .u64 1 (IntKind.u64.wrap (wrap64 (8 * t106))))))) else (none)))) = some r := H
  have A7 := Aside0.mk A70
  clear A70
  replace H := Option.bind_eq_some_iff.mp H
  obtain ⟨⟨t109, t110⟩, A80, H⟩ := H
  replace H : (if t106 = 8 then (annalslaw1_NumsFixed.j0 k a0 a1 a3 a4 t106 t107 t108 t109 t110 true) else (if 0 ≤ (IntKind.u64.wrap (wrap64 (8 * t106))) then (annalslaw1_NumsFixed.j0 k a0 a1 a3 a4 t106 t107 t108 t109 t110 (decide (a0 < (shl .u64 1 (IntKind.u64.wrap (wrap64 (8 * t106))))))) else (none))) = some r := H
  have A8 := Aside0.mk A80
  clear A80
  have HC9 := Aside0.mk H
  clear H
  go_enter Try.func6, Try.ntmps6
  go_upto_region 4 with (first | ((with_reducible refine gate_callee (f := 19) rfl ?_); refine goesL_ (some 21) rfl rfl Try.func19 (by kernel_rfl) rfl #[.int .i64 a2] rfl (by (try simp only [List.map_toArray, List.map_cons, List.map_nil]); first | done | rfl | (simp only [List.length_drop, List.length_take]; rfl)) ?_; (with_reducible refine (annalslaw1_size.calls a2 t106 _ A6.out).mono ?_); rintro e w' ⟨rfl, ⟨nd, rfl⟩⟩; refine ⟨_, rfl, ?_⟩) | ((with_reducible refine gate_callee (f := 15) rfl ?_); refine goesL_ (some 25) rfl rfl Try.func15 (by kernel_rfl) rfl #[.int .u64 a0, .int .i64 t106] rfl (by (try simp only [List.map_toArray, List.map_cons, List.map_nil]); first | done | rfl | (simp only [List.length_drop, List.length_take]; rfl)) ?_; (with_reducible refine (nums_PutBE.calls k a0 t106 t107 t108 _ A7.out).mono ?_); rintro e w10 ⟨rfl, hb⟩; refine ⟨_, rfl, ?_⟩; have n0_ := Aside0.mk (below_step (by repeat (first | (with_reducible first | exact HB.out | apply below_alloc | apply pw_below_drewN | apply below_drew1) | exact HB.out)) hb); clear HB; have HB := n0_; clear n0_; (try clear hb); (try clear hb2); (try clear hk); (try clear hi)) | ((with_reducible refine gate_callee (f := 15) rfl ?_); refine goesL_ (some 31) rfl rfl Try.func15 (by kernel_rfl) rfl #[.int .u64 a1, .int .i64 t106] rfl (by (try simp only [List.map_toArray, List.map_cons, List.map_nil]); first | done | rfl | (simp only [List.length_drop, List.length_take]; rfl)) ?_; (with_reducible refine (nums_PutBE.calls k a1 t106 t109 t110 _ A8.out).mono ?_); rintro e w11 ⟨rfl, hb⟩; refine ⟨_, rfl, ?_⟩; have n0_ := Aside0.mk (below_step (by repeat (first | (with_reducible first | exact HB.out | apply below_alloc | apply pw_below_drewN | apply below_drew1) | exact HB.out)) hb); clear HB; have HB := n0_; clear n0_; (try clear hb); (try clear hb2); (try clear hk); (try clear hi)))
  (try simp only [Act.put, List.setIfInBounds_toArray, List.set_cons_zero, List.set_cons_succ])
  go_cut [16] (fun v16 wc => ∃ (kq : Nat) (x16_8 : Bool), v16 = .bool x16_8 ∧ Aside0 (annalslaw1_NumsFixed.j0 kq a0 a1 a3 a4 t106 t107 t108 t109 t110 x16_8 = some r) ∧ Aside0 (kq ≤ k) ∧ Aside0 (Below w.heap.size w wc))
  case first =>
    have H := HC9.out
    clear HC9
    by_cases c12 : t106 = 8
    · rw [if_pos c12] at H
      have c12b0 : (t106 == 8) = true := beq_iff_eq.mpr c12
      have c12b1 : (t106 != 8) = false := bne_eq_false_iff_eq.mpr c12
      clear c12
      (first | rw [c12b0] | (simp only [i64_w, i32_w]; rw [c12b0]) | skip)
      have H' := Aside0.mk H
      clear H
      go_wp2
      go_meet
      case rel => exact ⟨_, (true), (by first | rfl | (simp; done) | (simp [*]; done)), H', ⟨by first | omega | exact Nat.le_refl _⟩, ⟨by repeat (first | (with_reducible first | exact HB.out | apply below_alloc | apply pw_below_drewN | apply below_drew1) | exact HB.out)⟩⟩
    · rw [if_neg c12] at H
      have c12b0 : (t106 == 8) = false := beq_eq_false_iff_ne.mpr c12
      have c12b1 : (t106 != 8) = true := bne_iff_ne.mpr c12
      (first | rw [c12b0] | (simp only [i64_w, i32_w]; rw [c12b0]) | skip)
      obtain ⟨ji13, hji13⟩ : ∃ j_ : Int, (IntKind.u64.wrap (wrap64 (8 * t106))) = j_ := ⟨_, rfl⟩
      replace H : (if 0 ≤ (ji13) then (annalslaw1_NumsFixed.j0 k a0 a1 a3 a4 t106 t107 t108 t109 t110 (decide (a0 < (shl .u64 1 (ji13))))) else (none)) = some r := by first | (rw [hji13] at H; exact H) | (simp only [hji13] at H ⊢; exact H)
      by_cases c14 : 0 ≤ (ji13)
      · rw [if_pos c14] at H
        have c14b0 := eq_true c14
        have c14b1 : decide (0 ≤ (ji13)) = true := decide_eq_true c14
        clear c14
        obtain ⟨ji15, hji15⟩ : ∃ j_ : Int, (shl .u64 1 (ji13)) = j_ := ⟨_, rfl⟩
        replace H : (annalslaw1_NumsFixed.j0 k a0 a1 a3 a4 t106 t107 t108 t109 t110 (decide (a0 < (ji15)))) = some r := by first | (rw [hji15] at H; exact H) | (simp only [hji15] at H ⊢; exact H)
        have hji15_ : (IntKind.u64.wrap (1 * 2 ^ min (ji13).toNat 64)) = ji15 := hji15
        have hji15z : (ji13) ≤ 64 → (IntKind.u64.wrap (1 * 2 ^ (ji13).toNat)) = ji15 := shl_small hji15
        have hji15u : (IntKind.u64.wrap (2 ^ min (ji13).toNat 64)) = ji15 := by have h_ := hji15_; rw [Int.one_mul] at h_; exact h_
        have hji15v : (ji13) ≤ 64 → (IntKind.u64.wrap (2 ^ (ji13).toNat)) = ji15 := fun hle_ => by have h_ := hji15z hle_; rw [Int.one_mul] at h_; exact h_
        have H' := Aside0.mk H
        clear H
        go_wp2
        go_meet
        case rel => exact ⟨_, (decide (a0 < (ji15))), (by first | rfl | (simp; done) | (simp only [← hji15] <;> (first | rfl | simp)) | (simp [*]; done)), H', ⟨by first | omega | exact Nat.le_refl _⟩, ⟨by repeat (first | (with_reducible first | exact HB.out | apply below_alloc | apply pw_below_drewN | apply below_drew1) | exact HB.out)⟩⟩
      · rw [if_neg c14] at H
        exact absurd H (by simp)
  case rest =>
    clear HC9
    try clear c1
    try clear p2
    try clear c6
    try clear p6
    try clear c12
    try clear c12b0
    try clear c12b1
    try clear c14
    try clear c14b0
    try clear c14b1
    try clear c15
    obtain ⟨kq, x16_8, rfl, HA, HJ8, HB⟩ := hcut
    cases kq with
    | zero => exact absurd HA.out (by simp [annalslaw1_NumsFixed.j0])
    | succ kj8 =>
      have H := HA.out
      clear HA
      simp only [annalslaw1_NumsFixed.j0] at H
      have HC16 := Aside0.mk H
      clear H
      go_upto_region 5 with (fail)
      go_cut [17] (fun v17 wc => ∃ (kq : Nat) (x17_15 : Bool), v17 = .bool x17_15 ∧ Aside0 (annalslaw1_NumsFixed.j1 kq a0 a1 a3 a4 t106 t107 t108 t109 t110 x16_8 x17_15 = some r) ∧ Aside0 (kq ≤ kj8) ∧ Aside0 (Below w.heap.size w wc))
      case first =>
        have H := HC16.out
        clear HC16
        by_cases c17 : t106 = 8
        · rw [if_pos c17] at H
          have c17b0 : (t106 == 8) = true := beq_iff_eq.mpr c17
          have c17b1 : (t106 != 8) = false := bne_eq_false_iff_eq.mpr c17
          clear c17
          (first | rw [c17b0] | (simp only [i64_w, i32_w]; rw [c17b0]) | skip)
          have H' := Aside0.mk H
          clear H
          go_wp2
          go_meet
          case rel => exact ⟨_, (true), (by first | rfl | (simp; done) | (simp [*]; done)), H', ⟨by have := HJ8.out; first | omega | exact Nat.le_refl _⟩, ⟨by repeat (first | (with_reducible first | exact HB.out | apply below_alloc | apply pw_below_drewN | apply below_drew1) | exact HB.out)⟩⟩
        · rw [if_neg c17] at H
          have c17b0 : (t106 == 8) = false := beq_eq_false_iff_ne.mpr c17
          have c17b1 : (t106 != 8) = true := bne_iff_ne.mpr c17
          (first | rw [c17b0] | (simp only [i64_w, i32_w]; rw [c17b0]) | skip)
          obtain ⟨ji18, hji18⟩ : ∃ j_ : Int, (IntKind.u64.wrap (wrap64 (8 * t106))) = j_ := ⟨_, rfl⟩
          replace H : (if 0 ≤ (ji18) then (annalslaw1_NumsFixed.j1 kj8 a0 a1 a3 a4 t106 t107 t108 t109 t110 x16_8 (decide (a1 < (shl .u64 1 (ji18))))) else (none)) = some r := by first | (rw [hji18] at H; exact H) | (simp only [hji18] at H ⊢; exact H)
          by_cases c19 : 0 ≤ (ji18)
          · rw [if_pos c19] at H
            have c19b0 := eq_true c19
            have c19b1 : decide (0 ≤ (ji18)) = true := decide_eq_true c19
            clear c19
            obtain ⟨ji20, hji20⟩ : ∃ j_ : Int, (shl .u64 1 (ji18)) = j_ := ⟨_, rfl⟩
            replace H : (annalslaw1_NumsFixed.j1 kj8 a0 a1 a3 a4 t106 t107 t108 t109 t110 x16_8 (decide (a1 < (ji20)))) = some r := by first | (rw [hji20] at H; exact H) | (simp only [hji20] at H ⊢; exact H)
            have hji20_ : (IntKind.u64.wrap (1 * 2 ^ min (ji18).toNat 64)) = ji20 := hji20
            have hji20z : (ji18) ≤ 64 → (IntKind.u64.wrap (1 * 2 ^ (ji18).toNat)) = ji20 := shl_small hji20
            have hji20u : (IntKind.u64.wrap (2 ^ min (ji18).toNat 64)) = ji20 := by have h_ := hji20_; rw [Int.one_mul] at h_; exact h_
            have hji20v : (ji18) ≤ 64 → (IntKind.u64.wrap (2 ^ (ji18).toNat)) = ji20 := fun hle_ => by have h_ := hji20z hle_; rw [Int.one_mul] at h_; exact h_
            have H' := Aside0.mk H
            clear H
            go_wp2
            go_meet
            case rel => exact ⟨_, (decide (a1 < (ji20))), (by first | rfl | (simp; done) | (simp only [← hji20] <;> (first | rfl | simp)) | (simp [*]; done)), H', ⟨by have := HJ8.out; first | omega | exact Nat.le_refl _⟩, ⟨by repeat (first | (with_reducible first | exact HB.out | apply below_alloc | apply pw_below_drewN | apply below_drew1) | exact HB.out)⟩⟩
          · rw [if_neg c19] at H
            exact absurd H (by simp)
      case rest =>
        clear HC16
        try clear c1
        try clear p2
        try clear c6
        try clear p6
        try clear c12
        try clear c12b0
        try clear c12b1
        try clear c14
        try clear c14b0
        try clear c14b1
        try clear c15
        try clear c17
        try clear c17b0
        try clear c17b1
        try clear c19
        try clear c19b0
        try clear c19b1
        try clear p2
        try clear p6
        obtain ⟨kq, x17_15, rfl, HA, HJ15, HB⟩ := hcut
        cases kq with
        | zero => exact absurd HA.out (by simp [annalslaw1_NumsFixed.j1])
        | succ kj15 =>
          have H := HA.out
          clear HA
          simp only [annalslaw1_NumsFixed.j1] at H
          by_cases c21 : x16_8 = true
          · subst c21
            have H1 : (if a3.size + t107.size ≤ 9223372036854775807 then (if (a3 ++ t107).size + a4.size ≤ 9223372036854775807 then ((nums_BE.f kj15 ((a3 ++ t107) ++ a4) (a3.size : Int) t106).bind fun bt111 => (if t108 = 0 then (if (t107.size : Int) = t106 then (if bt111.1 = a0 then (annalslaw1_NumsFixed.j2 kj15 a0 a1 t107 t109 t110 x17_15 (bt111.2 != 0)) else (annalslaw1_NumsFixed.j2 kj15 a0 a1 t107 t109 t110 x17_15 true)) else (annalslaw1_NumsFixed.j2 kj15 a0 a1 t107 t109 t110 x17_15 true)) else (annalslaw1_NumsFixed.j2 kj15 a0 a1 t107 t109 t110 x17_15 true))) else (none)) else (none)) = some r := by rw [if_pos rfl] at H; exact H
            clear H
            have H := H1
            clear H1
            by_cases c22 : a3.size + t107.size ≤ 9223372036854775807
            · rw [if_pos c22] at H
              have c22b0 := eq_true c22
              have c22b1 : decide (a3.size + t107.size ≤ 9223372036854775807) = true := decide_eq_true c22
              try have c22b2 : (9223372036854775807 < a3.size + t107.size) = False := eq_false (Nat.not_lt.2 c22)
              by_cases c23 : (a3 ++ t107).size + a4.size ≤ 9223372036854775807
              · rw [if_pos c23] at H
                have c23b0 := eq_true c23
                have c23b1 : decide ((a3 ++ t107).size + a4.size ≤ 9223372036854775807) = true := decide_eq_true c23
                try have c23b2 : (9223372036854775807 < (a3 ++ t107).size + a4.size) = False := eq_false (Nat.not_lt.2 c23)
                replace H := Option.bind_eq_some_iff.mp H
                obtain ⟨⟨t111, t112⟩, A240, H⟩ := H
                replace H : (if t108 = 0 then (if (t107.size : Int) = t106 then (if t111 = a0 then (annalslaw1_NumsFixed.j2 kj15 a0 a1 t107 t109 t110 x17_15 (t112 != 0)) else (annalslaw1_NumsFixed.j2 kj15 a0 a1 t107 t109 t110 x17_15 true)) else (annalslaw1_NumsFixed.j2 kj15 a0 a1 t107 t109 t110 x17_15 true)) else (annalslaw1_NumsFixed.j2 kj15 a0 a1 t107 t109 t110 x17_15 true)) = some r := H
                have A24 := Aside0.mk A240
                clear A240
                have HC25 := Aside0.mk H
                clear H
                go_upto_region 9 with (first | ((with_reducible refine gate_callee (f := 20) rfl ?_); refine goesL_ (some 71) rfl rfl Try.func20 (by kernel_rfl) rfl #[.string ((a3 ++ t107) ++ a4), .int .i64 (a3.size : Int), .int .i64 t106] rfl (by (try simp only [List.map_toArray, List.map_cons, List.map_nil]); first | done | rfl | (simp only [List.length_drop, List.length_take]; rfl)) ?_; (with_reducible refine (nums_BE.calls kj15 ((a3 ++ t107) ++ a4) (a3.size : Int) t106 t111 t112 _ A24.out).mono ?_); rintro e w' ⟨rfl, ⟨nd, rfl⟩⟩; refine ⟨_, rfl, ?_⟩))
                (try simp only [Act.put, List.setIfInBounds_toArray, List.set_cons_zero, List.set_cons_succ])
                go_cut [90] (fun v90 wc => ∃ (kq : Nat) (x90_24 : Bool), v90 = .bool x90_24 ∧ Aside0 (annalslaw1_NumsFixed.j2 kq a0 a1 t107 t109 t110 x17_15 x90_24 = some r) ∧ Aside0 (kq ≤ kj15) ∧ Aside0 (Below w.heap.size w wc))
                case first =>
                  have H := HC25.out
                  clear HC25
                  by_cases c26 : t108 = 0
                  · rw [if_pos c26] at H
                    have c26b0 : (t108 == 0) = true := beq_iff_eq.mpr c26
                    have c26b1 : (t108 != 0) = false := bne_eq_false_iff_eq.mpr c26
                    clear c26
                    (first | rw [c26b0] | (simp only [i64_w, i32_w]; rw [c26b0]) | skip)
                    by_cases c27 : (t107.size : Int) = t106
                    · rw [if_pos c27] at H
                      have c27b0 : ((t107.size : Int) == t106) = true := beq_iff_eq.mpr c27
                      have c27b1 : ((t107.size : Int) != t106) = false := bne_eq_false_iff_eq.mpr c27
                      clear c27
                      by_cases c28 : t111 = a0
                      · rw [if_pos c28] at H
                        have c28b0 : (t111 == a0) = true := beq_iff_eq.mpr c28
                        have c28b1 : (t111 != a0) = false := bne_eq_false_iff_eq.mpr c28
                        clear c28
                        have H' := Aside0.mk H
                        clear H
                        go_wp2
                        go_meet
                        case rel => exact ⟨_, ((t112 != 0)), (by first | rfl | (simp; done) | (simp [*]; done)), H', ⟨by have := HJ8.out; have := HJ15.out; first | omega | exact Nat.le_refl _⟩, ⟨by repeat (first | (with_reducible first | exact HB.out | apply below_alloc | apply pw_below_drewN | apply below_drew1) | exact HB.out)⟩⟩
                      · rw [if_neg c28] at H
                        have c28b0 : (t111 == a0) = false := beq_eq_false_iff_ne.mpr c28
                        have c28b1 : (t111 != a0) = true := bne_iff_ne.mpr c28
                        have H' := Aside0.mk H
                        clear H
                        go_wp2
                        go_meet
                        case rel => exact ⟨_, (true), (by first | rfl | (simp; done) | (simp [*]; done)), H', ⟨by have := HJ8.out; have := HJ15.out; first | omega | exact Nat.le_refl _⟩, ⟨by repeat (first | (with_reducible first | exact HB.out | apply below_alloc | apply pw_below_drewN | apply below_drew1) | exact HB.out)⟩⟩
                    · rw [if_neg c27] at H
                      have c27b0 : ((t107.size : Int) == t106) = false := beq_eq_false_iff_ne.mpr c27
                      have c27b1 : ((t107.size : Int) != t106) = true := bne_iff_ne.mpr c27
                      have H' := Aside0.mk H
                      clear H
                      go_wp2
                      go_meet
                      case rel => exact ⟨_, (true), (by first | rfl | (simp; done) | (simp [*]; done)), H', ⟨by have := HJ8.out; have := HJ15.out; first | omega | exact Nat.le_refl _⟩, ⟨by repeat (first | (with_reducible first | exact HB.out | apply below_alloc | apply pw_below_drewN | apply below_drew1) | exact HB.out)⟩⟩
                  · rw [if_neg c26] at H
                    have c26b0 : (t108 == 0) = false := beq_eq_false_iff_ne.mpr c26
                    have c26b1 : (t108 != 0) = true := bne_iff_ne.mpr c26
                    (first | rw [c26b0] | (simp only [i64_w, i32_w]; rw [c26b0]) | skip)
                    have H' := Aside0.mk H
                    clear H
                    go_wp2
                    go_meet
                    case rel => exact ⟨_, (true), (by first | rfl | (simp; done) | (simp [*]; done)), H', ⟨by have := HJ8.out; have := HJ15.out; first | omega | exact Nat.le_refl _⟩, ⟨by repeat (first | (with_reducible first | exact HB.out | apply below_alloc | apply pw_below_drewN | apply below_drew1) | exact HB.out)⟩⟩
                case rest =>
                  clear HC25
                  try clear c1
                  try clear c2
                  try clear p2
                  try clear c6
                  try clear p6
                  try clear c12
                  try clear c12b0
                  try clear c12b1
                  try clear c14
                  try clear c14b0
                  try clear c14b1
                  try clear c15
                  try clear c17
                  try clear c17b0
                  try clear c17b1
                  try clear c19
                  try clear c19b0
                  try clear c19b1
                  try clear c20
                  try clear c21
                  try clear c22
                  try clear c22b0
                  try clear c22b1
                  try clear c22b2
                  try clear c23
                  try clear c23b0
                  try clear c23b1
                  try clear c23b2
                  try clear c26
                  try clear c26b0
                  try clear c26b1
                  try clear c27
                  try clear c27b0
                  try clear c27b1
                  try clear c28
                  try clear c28b0
                  try clear c28b1
                  try clear p2
                  try clear p6
                  obtain ⟨kq, x90_24, rfl, HA, HJ24, HB⟩ := hcut
                  cases kq with
                  | zero => exact absurd HA.out (by simp [annalslaw1_NumsFixed.j2])
                  | succ kj24 =>
                    have H := HA.out
                    clear HA
                    simp only [annalslaw1_NumsFixed.j2] at H
                    by_cases c29 : x90_24 = true
                    · subst c29
                      have H1 : (some false) = some r := by rw [if_pos rfl] at H; exact H
                      clear H
                      have H := H1
                      clear H1
                      obtain rfl := Option.some.inj H
                      go_wp2
                      go_ret
                      exact ⟨by first | rfl | (simp [errW_none, errW_some] <;> rfl) | (simp [*, errW_none, errW_some] <;> rfl), by repeat (first | (with_reducible first | exact HB.out | apply below_alloc | apply pw_below_drewN | apply below_drew1) | exact HB.out)⟩
                    · replace c29 := Bool.eq_false_iff.mpr c29
                      subst c29
                      have H1 : (if x17_15 = true then (if t110 = 0 then (if ((Op.bytesLess t107.toList t109.toList) == (decide (a0 < a1))) = true then (some ((t107.toList == t109.toList) == (a0 == a1))) else (some false)) else (some false)) else (if t109.toList = ([] : List UInt8) then (some (t110 == 11)) else (some false))) = some r := by rw [if_neg (show ¬ (false = true) by decide)] at H; exact H
                      clear H
                      have H := H1
                      clear H1
                      by_cases c30 : x17_15 = true
                      · subst c30
                        have H1 : (if t110 = 0 then (if ((Op.bytesLess t107.toList t109.toList) == (decide (a0 < a1))) = true then (some ((t107.toList == t109.toList) == (a0 == a1))) else (some false)) else (some false)) = some r := by rw [if_pos rfl] at H; exact H
                        clear H
                        have H := H1
                        clear H1
                        by_cases c31 : t110 = 0
                        · rw [if_pos c31] at H
                          have c31b0 : (t110 == 0) = true := beq_iff_eq.mpr c31
                          have c31b1 : (t110 != 0) = false := bne_eq_false_iff_eq.mpr c31
                          clear c31
                          by_cases c32 : ((Op.bytesLess t107.toList t109.toList) == (decide (a0 < a1))) = true
                          · rw [if_pos c32] at H
                            have c32b0 : ((Op.bytesLess t107.toList t109.toList) == (decide (a0 < a1))) = true := c32
                            (try (have c32b1 : decide ((Op.bytesLess t107.toList t109.toList) = (decide (a0 < a1))) = true := by simpa using c32))
                            (try (have c32b2 : ((Op.bytesLess t107.toList t109.toList) == (decide (a0 < a1))) = true := by simpa using c32))
                            clear c32
                            obtain rfl := Option.some.inj H
                            go_wp2
                            go_ret
                            exact ⟨by first | rfl | (simp [errW_none, errW_some] <;> rfl) | (simp [*, errW_none, errW_some] <;> rfl), by repeat (first | (with_reducible first | exact HB.out | apply below_alloc | apply pw_below_drewN | apply below_drew1) | exact HB.out)⟩
                          · rw [if_neg c32] at H
                            have c32b0 : ((Op.bytesLess t107.toList t109.toList) == (decide (a0 < a1))) = false := by simpa using c32
                            (try (have c32b1 : decide ((Op.bytesLess t107.toList t109.toList) = (decide (a0 < a1))) = false := by simpa using c32))
                            (try (have c32b2 : ((Op.bytesLess t107.toList t109.toList) == (decide (a0 < a1))) = false := by simpa using c32))
                            (try (have c32b3 : ¬ ((Op.bytesLess t107.toList t109.toList) = (decide (a0 < a1))) := by simpa using c32))
                            clear c32
                            obtain rfl := Option.some.inj H
                            go_wp2
                            go_ret
                            exact ⟨by first | rfl | (simp [errW_none, errW_some] <;> rfl) | (simp [*, errW_none, errW_some] <;> rfl), by repeat (first | (with_reducible first | exact HB.out | apply below_alloc | apply pw_below_drewN | apply below_drew1) | exact HB.out)⟩
                        · rw [if_neg c31] at H
                          have c31b0 : (t110 == 0) = false := beq_eq_false_iff_ne.mpr c31
                          have c31b1 : (t110 != 0) = true := bne_iff_ne.mpr c31
                          obtain rfl := Option.some.inj H
                          go_wp2
                          go_ret
                          exact ⟨by first | rfl | (simp [errW_none, errW_some] <;> rfl) | (simp [*, errW_none, errW_some] <;> rfl), by repeat (first | (with_reducible first | exact HB.out | apply below_alloc | apply pw_below_drewN | apply below_drew1) | exact HB.out)⟩
                      · replace c30 := Bool.eq_false_iff.mpr c30
                        subst c30
                        have H1 : (if t109.toList = ([] : List UInt8) then (some (t110 == 11)) else (some false)) = some r := by rw [if_neg (show ¬ (false = true) by decide)] at H; exact H
                        clear H
                        have H := H1
                        clear H1
                        by_cases c33 : t109.toList = ([] : List UInt8)
                        · rw [if_pos c33] at H
                          have c33b0 : (t109.toList == ([] : List UInt8)) = true := beq_iff_eq.mpr c33
                          have c33b1 : (t109.toList != ([] : List UInt8)) = false := bne_eq_false_iff_eq.mpr c33
                          clear c33
                          obtain rfl := Option.some.inj H
                          go_wp2
                          go_ret
                          exact ⟨by first | rfl | (simp [errW_none, errW_some] <;> rfl) | (simp [*, errW_none, errW_some] <;> rfl), by repeat (first | (with_reducible first | exact HB.out | apply below_alloc | apply pw_below_drewN | apply below_drew1) | exact HB.out)⟩
                        · rw [if_neg c33] at H
                          have c33b0 : (t109.toList == ([] : List UInt8)) = false := beq_eq_false_iff_ne.mpr c33
                          have c33b1 : (t109.toList != ([] : List UInt8)) = true := bne_iff_ne.mpr c33
                          obtain rfl := Option.some.inj H
                          go_wp2
                          go_ret
                          exact ⟨by first | rfl | (simp [errW_none, errW_some] <;> rfl) | (simp [*, errW_none, errW_some] <;> rfl), by repeat (first | (with_reducible first | exact HB.out | apply below_alloc | apply pw_below_drewN | apply below_drew1) | exact HB.out)⟩
              · rw [if_neg c23] at H
                exact absurd H (by simp)
            · rw [if_neg c22] at H
              exact absurd H (by simp)
          · replace c21 := Bool.eq_false_iff.mpr c21
            subst c21
            have H1 : (if t107.toList = ([] : List UInt8) then (some (t108 == 11)) else (some false)) = some r := by rw [if_neg (show ¬ (false = true) by decide)] at H; exact H
            clear H
            have H := H1
            clear H1
            by_cases c34 : t107.toList = ([] : List UInt8)
            · rw [if_pos c34] at H
              have c34b0 : (t107.toList == ([] : List UInt8)) = true := beq_iff_eq.mpr c34
              have c34b1 : (t107.toList != ([] : List UInt8)) = false := bne_eq_false_iff_eq.mpr c34
              clear c34
              obtain rfl := Option.some.inj H
              go_wp2
              go_ret
              exact ⟨by first | rfl | (simp [errW_none, errW_some] <;> rfl) | (simp [*, errW_none, errW_some] <;> rfl), by repeat (first | (with_reducible first | exact HB.out | apply below_alloc | apply pw_below_drewN | apply below_drew1) | exact HB.out)⟩
            · rw [if_neg c34] at H
              have c34b0 : (t107.toList == ([] : List UInt8)) = false := beq_eq_false_iff_ne.mpr c34
              have c34b1 : (t107.toList != ([] : List UInt8)) = true := bne_iff_ne.mpr c34
              obtain rfl := Option.some.inj H
              go_wp2
              go_ret
              exact ⟨by first | rfl | (simp [errW_none, errW_some] <;> rfl) | (simp [*, errW_none, errW_some] <;> rfl), by repeat (first | (with_reducible first | exact HB.out | apply below_alloc | apply pw_below_drewN | apply below_drew1) | exact HB.out)⟩

/-- THE ONE PURE STATEMENT of annalslaw1_NumsFixed: yours. -/
def annalslaw1_NumsFixed.Pure : Prop := ∀ (a0 : Int) (a1 : Int) (a2 : Int) (a3 : ByteArray) (a4 : ByteArray), (Lit.int .u64 a0).wf = true → (Lit.int .u64 a1).wf = true → (Lit.int .i64 a2).wf = true → a3.size ≤ 140737488351232 → a4.size ≤ 140737488351232 → ∃ k, annalslaw1_NumsFixed.f k a0 a1 a2 a3 a4 = some true
theorem annalslaw1_NumsFixed.walk (P : annalslaw1_NumsFixed.Pure) (a0 : Int) (a1 : Int) (a2 : Int) (a3 : ByteArray) (a4 : ByteArray) (w : World) (w0 : (Lit.int .u64 a0).wf = true) (w1 : (Lit.int .u64 a1).wf = true) (w2 : (Lit.int .i64 a2).wf = true) (w3 : a3.size ≤ 140737488351232) (w4 : a4.size ≤ 140737488351232) :
    Calls Try.prog 6 #[.int .u64 a0, .int .u64 a1, .int .i64 a2, .string a3, .string a4] w fun e w' => e = .returned (.bool true) ∧ Below w.heap.size w w' := by
  obtain ⟨k, h⟩ := P a0 a1 a2 a3 a4 w0 w1 w2 w3 w4
  refine (annalslaw1_NumsFixed.calls k a0 a1 a2 a3 a4 true w h).mono ?_
  rintro e w' ⟨rfl, hd⟩
  exact ⟨rfl, hd⟩

end Go.Proofs.Ythmcibahdbglnaa.PNumsFixed
