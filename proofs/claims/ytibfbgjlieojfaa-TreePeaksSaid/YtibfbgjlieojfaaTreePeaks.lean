/- TreePeaks: its walk. -/
import Derived.Test.YtibfbgjlieojfaaTreeCov
set_option linter.unusedVariables false
set_option linter.unusedSimpArgs false
namespace Go.Proofs.Ytibfbgjlieojfaa.Cover
open Go.RowKit Go.Proofs.Ytibfbgjlieojfaa.Base Go.Proofs.Ytibfbgjlieojfaa.Nums Go.Proofs.Ytibfbgjlieojfaa.Cov Go.Proofs.Ytibfbgjlieojfaa.Mem Go.Proofs.Ytibfbgjlieojfaa.Lst

theorem dg_succ (m r : Nat) : dg (m + 1) r = if 2 ^ m ≤ r then m :: dg m (r - 2 ^ m) else dg m r := rfl
theorem dg_step (n m : Nat) : dg (m + 1) (n % 2 ^ (m + 1)) = if n / 2 ^ m % 2 = 1 then m :: dg m (n % 2 ^ m) else dg m (n % 2 ^ m) := by
  have h := Nat.mod_pow_succ (x := n) (b := 2) (k := m)
  have hl := Nat.mod_lt n (Nat.two_pow_pos m)
  rw [dg_succ, h]
  rcases Nat.mod_two_eq_zero_or_one (n / 2 ^ m) with h0 | h0
  · rw [h0, Nat.mul_zero, Nat.add_zero, if_neg (by omega), if_neg (by omega)]
  · rw [h0, Nat.mul_one, if_pos (by omega), if_pos rfl, Nat.add_sub_cancel]
def Pk (n m i : Nat) : Prop := ∃ L : List Nat, (greedy 0 n).map (·.1) = L ++ dg m (n % 2 ^ m) ∧ L.length = i
theorem pk_start (n : Nat) (h : n ≤ 4611686018427387904) : Pk n 63 0 := by
  refine ⟨[], ?_, rfl⟩
  rw [greedy_zero n h, Nat.mod_eq_of_lt]
  · rfl
  · have : (2 : Nat) ^ 63 = 9223372036854775808 := by decide
    omega
theorem pk_no {n m i : Nat} (h : Pk n (m + 1) i) (hb : ¬ n / 2 ^ m % 2 = 1) : Pk n m i := by
  obtain ⟨L, h1, h2⟩ := h
  rw [dg_step, if_neg hb] at h1
  exact ⟨L, h1, h2⟩
theorem pk_yes {n m i : Nat} (h : Pk n (m + 1) i) (hb : n / 2 ^ m % 2 = 1) : i < (greedy 0 n).length ∧ ((greedy 0 n).getD i (0, 0)).1 = m ∧ Pk n m (i + 1) := by
  obtain ⟨L, h1, h2⟩ := h
  rw [dg_step, if_pos hb] at h1
  have hl := congrArg List.length h1
  rw [List.length_map, List.length_append, List.length_cons] at hl
  refine ⟨by omega, ?_, L ++ [m], by rw [h1]; simp, by rw [List.length_append, h2]; rfl⟩
  have h3 := congrArg (fun l => l[i]?) h1
  rw [List.getElem?_map, List.getElem?_append_right (by omega), h2, Nat.sub_self] at h3
  rw [List.getD_eq_getElem?_getD, List.getElem?_eq_getElem (by omega)] 
  rw [List.getElem?_eq_getElem (by omega)] at h3
  simpa using h3
theorem pk_end {n i : Nat} (h : Pk n 0 i) : i = (greedy 0 n).length := by
  obtain ⟨L, h1, h2⟩ := h
  have hl := congrArg List.length h1
  rw [List.length_map, List.length_append] at hl
  simp [dg] at hl
  omega
set_option maxRecDepth 100000 in
set_option maxHeartbeats 1000000 in
theorem treePeaks_walk (n : Int) (w : World) (_ : (Lit.int .i64 n).wf = true) :
    Calls Try.prog 8 #[.int .i64 n] w fun e w' => e = .returned (.bool true) ∧ Below w.heap.size w w' := by
  by_cases hr : Refused 0 n
  · have HM := Lib.hid (fun W => mcover_no 0 n W hr)
    have hc : n < 0 ∨ 4611686018427387904 < n := by unfold Refused at hr; omega
    clear hr
    rcases hc with hc | hc
    · go_enter Try.func8, Try.ntmps8
      go_wp2_with (first
        | (go_at_call 24; ((with_reducible refine (HM.out _).mono ?_); rintro e w' ⟨rfl, rfl⟩))
        | (go_at_call 12; ((with_reducible refine (num_calls _ _).mono ?_); rintro e w' ⟨rfl, rfl⟩)))
      go_ret
      exact ⟨rfl, Below.refl _ _⟩
    · have hc0 : ¬ n < 0 := by omega
      go_enter Try.func8, Try.ntmps8
      go_wp2_with (first
        | (go_at_call 24; ((with_reducible refine (HM.out _).mono ?_); rintro e w' ⟨rfl, rfl⟩))
        | (go_at_call 12; ((with_reducible refine (num_calls _ _).mono ?_); rintro e w' ⟨rfl, rfl⟩)))
      go_ret
      exact ⟨rfl, Below.refl _ _⟩
  · obtain ⟨b, hb⟩ : ∃ b : Nat, n = b := ⟨n.toNat, by unfold Refused at hr; omega⟩
    subst hb
    have hh : b ≤ 4611686018427387904 := by unfold Refused at hr; omega
    have hlen := greedy_len 0 b (by omega) hh
    have HM := Lib.hid (fun W => mcover_yes 0 b W (by omega) hh)
    have h0 : ¬ (b : Int) < 0 := by omega
    have h00 : decide ((b : Int) < 0) = false := decide_eq_false h0
    have h1 : ¬ (4611686018427387904 : Int) < (b : Int) := by omega
    have HP := Lib.hid (pk_start b hh)
    clear hr
    go_enter Try.func8, Try.ntmps8
    go_wp2_with fail
    refine (HM.out _).mono ?_
    rintro e w1 ⟨v1, rfl, o1, _, b1⟩
    obtain ⟨A, c, rfl, _, s1, _⟩ := OwnA.shape o1
    have HA := Lib.hid s1
    have HB := Lib.hid b1
    clear s1 o1 b1
    go_wp2_with (go_at_call 12; ((with_reducible refine (num_calls _ _).mono ?_); rintro e w' ⟨rfl, rfl⟩))
    go_loop [7, 8] (fun i k => ∃ (m j : Nat), k = .int .i64 ((m : Int) - 1) ∧ i = .int .i64 (j : Int) ∧ m ≤ 63 ∧ Hid (Pk b m j)) (fun _ k => (intOf k + 1).toNat)
    case atStart => exact ⟨63, 0, rfl, rfl, by omega, HP⟩
    case round =>
      obtain ⟨m, j, rfl, rfl, hm, hp⟩ := hrel
      rcases m with _ | m
      · have he := pk_end hp.out
        rw [← he]
        go_wp2
        go_ret
        exact ⟨rfl, HB.out⟩
      · rw [show ((m + 1 : Nat) : Int) - 1 = (m : Int) by omega]
        have h36 : IntKind.u64.wrap (m : Int) = (m : Int) := u64_in (by omega) (by omega)
        have hle : b / 2 ^ m ≤ b := Nat.div_le_self _ _
        have ha := and1 (b / 2 ^ m) (by omega)
        have hs : (b : Int) / 2 ^ m = ((b / 2 ^ m : Nat) : Int) := by rw [Int.natCast_ediv, Int.natCast_pow]; rfl
        have HYES := Lib.hid (fun hb => pk_yes hp.out (m := m) hb)
        have HNO := Lib.hid (fun hb => pk_no hp.out (m := m) hb)
        generalize b / 2 ^ m = D at *
        clear hp
        by_cases hb : D % 2 = 1
        · obtain ⟨hi, hv, hx⟩ := HYES.out hb
          obtain ⟨ad, X, rfl, _, hX, hXb, a1, _⟩ := HA.out.at2 j hi
          rw [hv] at a1
          rw [hb] at ha
          have HX := Lib.hid hx
          have hlt : ((j : Nat) : Int) < ((greedy 0 b).length : Int) := by omega
          have hge : ¬ ((greedy 0 b).length : Int) ≤ (j : Int) := by omega
          clear hx hv hXb HA HYES HNO hb hle
          go_wp2
          go_round
          case rel => exact ⟨m, j + 1, rfl, by go_num, by omega, HX⟩
          case measure => simp only [intOf]; omega
        · have HX := Lib.hid (HNO.out hb)
          have hb0 : D % 2 = 0 := by omega
          rw [hb0] at ha
          clear HYES HNO hb hb0 hle
          go_wp2
          go_round
          case rel => exact ⟨m, j, by go_num, rfl, by omega, HX⟩
          case measure => simp only [intOf]; omega
end Go.Proofs.Ytibfbgjlieojfaa.Cover
