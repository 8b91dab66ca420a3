/- TreeTiles: its walk. -/
import Derived.Test.YtibfbgjlieojfaaTreeCov
import Derived.Test.YtibfbgjlieojfaaKinP
set_option linter.unusedVariables false
set_option linter.unusedSimpArgs false
namespace Go.Proofs.Ytibfbgjlieojfaa.Cover
open Go.RowKit Go.Proofs.Ytibfbgjlieojfaa.Base Go.Proofs.Ytibfbgjlieojfaa.Nums Go.Proofs.Ytibfbgjlieojfaa.Cov Go.Proofs.Ytibfbgjlieojfaa.Mem Go.Proofs.Ytibfbgjlieojfaa.Lst Go.Proofs.Ytibfbgjlieojfaa.PTreeKin

theorem numk_calls (a : Int) (w : World) : Calls Try.prog 12 #[.int .i64 a] w fun e w' => e = .returned (.int .i64 a) ∧ w = w' := (num_calls a w).mono fun _ _ h => ⟨h.1, h.2.symm⟩
theorem span_calls (p j : Nat) (h : Kin.ok p j) (w : World) : Calls Try.prog 13 #[.agg #[.int .i64 (p : Int), .int .i64 (j : Int)]] w
    fun e w' => e = .returned (.tuple #[.int .i64 ((j * 2 ^ p : Nat) : Int), .int .i64 (((j + 1) * 2 ^ p : Nat) : Int), .int .i64 0]) ∧ Below w.heap.size w w' :=
  tree_Span.calls _ _ _ _ _ w (Kin.span_f h)
theorem inside_no (p j lo hi : Nat) (h : Kin.ok p j) (w : World) (hn : ¬ (lo ≤ j * 2 ^ p ∧ (j + 1) * 2 ^ p ≤ hi)) :
    Calls Try.prog 27 #[.agg #[.int .i64 (p : Int), .int .i64 (j : Int)], .int .i64 (lo : Int), .int .i64 (hi : Int)] w fun e w' => e = .returned (.bool false) ∧ Below w.heap.size w w' := by
  have HS := Lib.hid (fun W => span_calls p j h W)
  have hm := h.2
  have hle : j * 2 ^ p ≤ (j + 1) * 2 ^ p := Nat.mul_le_mul_right _ (by omega)
  generalize j * 2 ^ p = X at *
  generalize (j + 1) * 2 ^ p = Y at *
  have hB := (Below.refl w.heap.size w).alloc (Nat.le_refl _) (.cells #[.int .i64 (p : Int), .int .i64 (j : Int)] 24)
  have HB := Lib.hid hB
  clear h hB
  rcases Nat.lt_or_ge X lo with h1 | h1
  · have h1' : ¬ (lo : Int) ≤ (X : Int) := by omega
    have h1'' : decide ((lo : Int) ≤ (X : Int)) = false := decide_eq_false h1'
    clear hn
    go_enter Try.func27, Try.ntmps27
    go_wp2_with (first
      | (go_at_call 13; ((with_reducible refine (HS.out _).mono ?_); rintro e w' ⟨rfl, b1⟩; have HC := Lib.hid (chain HB.out b1); clear b1))
      | (go_at_call 12; ((with_reducible refine (numk_calls _ _).mono ?_); rintro e w' ⟨rfl, rfl⟩)))
    go_ret
    exact ⟨rfl, HC.out⟩
  · have h2 : hi < Y := by omega
    have h2' : ¬ (Y : Int) ≤ (hi : Int) := by omega
    have h2'' : decide ((Y : Int) ≤ (hi : Int)) = false := decide_eq_false h2'
    have h1' : (lo : Int) ≤ (X : Int) := by omega
    have h2n : decide (Y ≤ hi) = false := decide_eq_false (by omega)
    clear hn
    go_enter Try.func27, Try.ntmps27
    go_wp2_with (first
      | (go_at_call 13; ((with_reducible refine (HS.out _).mono ?_); rintro e w' ⟨rfl, b1⟩; have HC := Lib.hid (chain HB.out b1); clear b1))
      | (go_at_call 12; ((with_reducible refine (numk_calls _ _).mono ?_); rintro e w' ⟨rfl, rfl⟩)))
    go_ret
    exact ⟨rfl, HC.out⟩
/-- Between two rounds: i pieces have been seen, which end at p. -/
def Tl (lo hi i p : Nat) : Prop := lo ≤ p ∧ p ≤ hi ∧ Inv lo hi p ∧ ∃ pre, greedy lo hi = pre ++ greedy p hi ∧ pre.length = i
theorem tl_start (lo hi : Nat) (h : lo ≤ hi) : Tl lo hi 0 lo := ⟨Nat.le_refl _, h, inv_start lo hi, [], by simp, rfl⟩
theorem tl_end {lo hi i p : Nat} (h : Tl lo hi i p) (hi' : ¬ i < (greedy lo hi).length) : p = hi := by
  obtain ⟨h1, h2, _, pre, h3, h4⟩ := h
  have := congrArg List.length h3
  rw [List.length_append] at this
  rcases Nat.lt_or_ge p hi with hp | hp
  · rw [greedy_step hp, List.length_cons] at this; omega
  · omega
theorem tl_step {lo hi i p : Nat} (hh : hi ≤ 4611686018427387904) (h : Tl lo hi i p) (hi' : i < (greedy lo hi).length) :
    (greedy lo hi).getD i (0, 0) = (lev p hi, p / 2 ^ lev p hi) ∧ Kin.ok (lev p hi) (p / 2 ^ lev p hi) ∧ p / 2 ^ lev p hi * 2 ^ lev p hi = p ∧ (p / 2 ^ lev p hi + 1) * 2 ^ lev p hi = p + 2 ^ lev p hi ∧
      p + 2 ^ lev p hi ≤ hi ∧ 0 < 2 ^ lev p hi ∧ Tl lo hi (i + 1) (p + 2 ^ lev p hi) ∧
      (lev p hi < 62 → ¬ (lo ≤ p / 2 ^ lev p hi / 2 * 2 ^ (lev p hi + 1) ∧ (p / 2 ^ lev p hi / 2 + 1) * 2 ^ (lev p hi + 1) ≤ hi)) := by
  obtain ⟨h1, h2, h5, pre, h3, h4⟩ := h
  have hl := congrArg List.length h3
  rw [List.length_append] at hl
  have hp : p < hi := by
    rcases Nat.lt_or_ge p hi with hp | hp
    · exact hp
    · rw [greedy_end (p := p) (hi := hi) (by omega), List.length_nil] at hl; omega
  have hm := lev_mul hp hh
  have hn := lev_next hp hh
  have hpos := lev_pos p hi
  have e2 : (p / 2 ^ lev p hi + 1) * 2 ^ lev p hi = p + 2 ^ lev p hi := by rw [Nat.add_mul, Nat.one_mul, hm]
  refine ⟨?_, ⟨lev_62 _ _, by rw [e2]; omega⟩, hm, e2, hn, hpos, ⟨by omega, hn, inv_next h1 hp hh h5, pre ++ [(lev p hi, p / 2 ^ lev p hi)], ?_, by rw [List.length_append, h4]; rfl⟩, fun hk => ?_⟩
  · rw [h3, greedy_step hp, List.getD_eq_getElem?_getD, List.getElem?_append_right (by omega), h4, Nat.sub_self]; rfl
  · rw [h3, greedy_step hp]; simp
  · have := not_inside hp hh h5 hk
    rw [Nat.div_div_eq_div_mul, ← Nat.pow_succ]
    exact this
set_option maxRecDepth 100000 in
set_option maxHeartbeats 4000000 in
theorem tiles_yes (lo hi : Nat) (w : World) (hl : lo ≤ hi) (hh : hi ≤ 4611686018427387904) :
    Calls Try.prog 9 #[.int .i64 (lo : Int), .int .i64 (hi : Int)] w fun e w' => e = .returned (.bool true) ∧ Below w.heap.size w w' := by
  have HM := Lib.hid (fun W => mcover_yes lo hi W hl hh)
  have hlen := greedy_len lo hi hl hh
  have h0 : ¬ (lo : Int) < 0 := by omega
  have h00 : decide ((lo : Int) < 0) = false := decide_eq_false h0
  have h1 : ¬ (4611686018427387904 : Int) < (hi : Int) := by omega
  have h2 : ¬ (hi : Int) < (lo : Int) := by omega
  have hle : ¬ (122 : Int) < ((greedy lo hi).length : Int) := by omega
  have h1d : decide ((4611686018427387904 : Int) < (hi : Int)) = false := decide_eq_false h1
  have h2d : decide ((hi : Int) < (lo : Int)) = false := decide_eq_false h2
  have h2n : decide (hi < lo) = false := decide_eq_false (by omega)
  have hled : decide ((122 : Int) < ((greedy lo hi).length : Int)) = false := decide_eq_false hle
  have HP := Lib.hid (tl_start lo hi hl)
  go_enter Try.func9, Try.ntmps9
  go_wp2_with fail
  refine (HM.out _).mono ?_
  rintro e w1 ⟨v1, rfl, o1, _, b1⟩
  obtain ⟨A, c, rfl, _, s1, _⟩ := OwnA.shape o1
  have HA := Lib.hid s1
  have HB := Lib.hid b1
  clear s1 o1 b1
  go_wp2_with (go_at_call 12; ((with_reducible refine (numk_calls _ _).mono ?_); rintro e w' ⟨rfl, rfl⟩))
  go_loopw [7, 8] (fun p i wr => ∃ (q j : Nat), p = .int .i64 (q : Int) ∧ i = .int .i64 (j : Int) ∧ j ≤ (greedy lo hi).length ∧ Hid (Tl lo hi j q) ∧ Hid (Below w1.heap.size w1 wr)) (fun _ i _ => (greedy lo hi).length - (intOf i).toNat)
  case atStart => exact ⟨lo, 0, rfl, rfl, by omega, HP, Lib.hid (Below.refl _ _)⟩
  case round =>
    obtain ⟨q, j, rfl, rfl, hj, ht, hw⟩ := hrel
    by_cases hlt : j < (greedy lo hi).length
    · obtain ⟨t1, t2, t3, t4, t5, t6, t7, t8⟩ := tl_step hh ht.out hlt
      obtain ⟨ad, X, rfl, hab, hX, hXb, a1, a2⟩ := (HA.out.below hw.out).at2 j hlt
      have HXB : Hid (X.block < wr.heap.size) := Lib.hid (by omega)
      rw [t1] at a1 a2
      dsimp only at a1 a2
      have hs0 := fun W => span_calls _ _ t2 W
      rw [t3, t4] at hs0
      have HS := Lib.hid hs0
      have HT := Lib.hid t7
      have H8 := Lib.hid t8
      clear hs0 t8
      have h62 := t2.1
      by_cases hk : lev q hi < 62
      · have HPA := Lib.hid (fun W => tree_Parent.calls _ _ _ _ _ W (Kin.parent_f t2 hk))
        have HIN := Lib.hid (fun W => inside_no _ _ lo hi (Kin.ok_up t2 hk).1 W (H8.out hk))
        clear H8 t1 t2 t3 t4 t7 ht hXb hab
        generalize 2 ^ lev q hi = Q at *
        generalize q / Q = J at *
        generalize J / 2 = J2 at *
        generalize lev q hi + 1 = K1 at *
        generalize lev q hi = K at *
        go_wp2_with fail
        refine (HS.out _).mono ?_
        rintro e w2 ⟨rfl, b2⟩
        have c1 : w2.cell? X = _ := (b2.cell HXB.out).trans a1
        have c2 : w2.cell? ⟨X.block, X.off + 1, none⟩ = _ := (b2.cell (p := ⟨X.block, X.off + 1, none⟩) HXB.out).trans a2
        have HW2 := Lib.hid (chain hw.out b2)
        clear a1 a2 b2
        go_wp2_with (go_at_call 12; ((with_reducible refine (numk_calls _ _).mono ?_); rintro e w' ⟨rfl, rfl⟩))
        refine (HPA.out _).mono ?_
        rintro e w3 ⟨rfl, b3⟩
        have HW3 := Lib.hid ((chain HW2.out b3).alloc (chain HW2.out b3).size (.cells #[.int .i64 (K1 : Int), .int .i64 (J2 : Int)] 24))
        clear b3 c1 c2
        go_wp2_with (first
          | (go_at_call 12; ((with_reducible refine (numk_calls _ _).mono ?_); rintro e w' ⟨rfl, rfl⟩))
          | (go_at_call 27; ((with_reducible refine (HIN.out _).mono ?_); rintro e w4 ⟨rfl, b4⟩; have HW4 := Lib.hid (chain HW3.out b4); clear b4)))
        go_roundw
        case rel => exact ⟨q + Q, j + 1, rfl, by go_num, by omega, HT, HW4⟩
        case measure => simp only [intOf]; omega
      · have hpf : tree_Parent.f ((lev q hi : Nat) : Int) ((q / 2 ^ lev q hi : Nat) : Int) = some (0, 0, 50) := by
          have e : lev q hi = 62 := by omega
          rw [e] at t2 ⊢
          exact (Kin.top_f t2).1
        have HPA := Lib.hid (fun W => tree_Parent.calls _ _ _ _ _ W hpf)
        clear hpf H8 t1 t2 t3 t4 t7 ht hXb hab
        generalize 2 ^ lev q hi = Q at *
        generalize q / Q = J at *
        generalize lev q hi = K at *
        go_wp2_with fail
        refine (HS.out _).mono ?_
        rintro e w2 ⟨rfl, b2⟩
        have c1 : w2.cell? X = _ := (b2.cell HXB.out).trans a1
        have c2 : w2.cell? ⟨X.block, X.off + 1, none⟩ = _ := (b2.cell (p := ⟨X.block, X.off + 1, none⟩) HXB.out).trans a2
        have HW2 := Lib.hid (chain hw.out b2)
        clear a1 a2 b2
        go_wp2_with (go_at_call 12; ((with_reducible refine (numk_calls _ _).mono ?_); rintro e w' ⟨rfl, rfl⟩))
        refine (HPA.out _).mono ?_
        rintro e w3 ⟨rfl, b3⟩
        have HW3 := Lib.hid ((chain HW2.out b3).alloc (chain HW2.out b3).size (.cells #[.int .i64 0, .int .i64 0] 24))
        clear b3 c1 c2
        go_wp2_with (go_at_call 12; ((with_reducible refine (numk_calls _ _).mono ?_); rintro e w' ⟨rfl, rfl⟩))
        go_roundw
        case rel => exact ⟨q + Q, j + 1, rfl, by go_num, by omega, HT, HW3⟩
        case measure => simp only [intOf]; omega
    · have he := tl_end ht.out hlt
      subst he
      have HZ := Lib.hid (HB.out.trans (hw.out.mono HB.out.size))
      clear ht
      go_wp2
      go_ret
      exact ⟨rfl, HZ.out⟩
theorem treeTiles_walk (lo hi : Int) (w : World) (_ : (Lit.int .i64 lo).wf = true) (_ : (Lit.int .i64 hi).wf = true) :
    Calls Try.prog 9 #[.int .i64 lo, .int .i64 hi] w fun e w' => e = .returned (.bool true) ∧ Below w.heap.size w w' := by
  by_cases hr : Refused lo hi
  · have HM := Lib.hid (fun W => mcover_no lo hi W hr)
    unfold Refused at hr
    rcases Int.lt_or_le lo 0 with h1 | h1
    · clear hr
      go_enter Try.func9, Try.ntmps9
      go_wp2_with (first
        | (go_at_call 24; ((with_reducible refine (HM.out _).mono ?_); rintro e w' ⟨rfl, rfl⟩))
        | (go_at_call 12; ((with_reducible refine (num_calls _ _).mono ?_); rintro e w' ⟨rfl, rfl⟩)))
      go_ret
      exact ⟨rfl, Below.refl _ _⟩
    · have h1' : ¬ lo < 0 := by omega
      rcases Int.lt_or_le hi lo with h2 | h2
      · clear hr
        go_enter Try.func9, Try.ntmps9
        go_wp2_with (first
          | (go_at_call 24; ((with_reducible refine (HM.out _).mono ?_); rintro e w' ⟨rfl, rfl⟩))
          | (go_at_call 12; ((with_reducible refine (num_calls _ _).mono ?_); rintro e w' ⟨rfl, rfl⟩)))
        go_ret
        exact ⟨rfl, Below.refl _ _⟩
      · have h2' : ¬ hi < lo := by omega
        have h3 : 4611686018427387904 < hi := by omega
        clear hr
        go_enter Try.func9, Try.ntmps9
        go_wp2_with (first
          | (go_at_call 24; ((with_reducible refine (HM.out _).mono ?_); rintro e w' ⟨rfl, rfl⟩))
          | (go_at_call 12; ((with_reducible refine (num_calls _ _).mono ?_); rintro e w' ⟨rfl, rfl⟩)))
        go_ret
        exact ⟨rfl, Below.refl _ _⟩
  · obtain ⟨a, ha⟩ : ∃ a : Nat, lo = a := ⟨lo.toNat, by unfold Refused at hr; omega⟩
    obtain ⟨b, hb⟩ : ∃ b : Nat, hi = b := ⟨hi.toNat, by unfold Refused at hr; omega⟩
    subst ha hb
    exact tiles_yes a b w (by unfold Refused at hr; omega) (by unfold Refused at hr; omega)
end Go.Proofs.Ytibfbgjlieojfaa.Cover
