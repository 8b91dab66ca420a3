/- TreeCover: its walk. -/
import Derived.Test.YtibfbgjlieojfaaRCover
set_option linter.unusedVariables false
set_option linter.unusedSimpArgs false
namespace Go.Proofs.Ytibfbgjlieojfaa.Cover
open Go.RowKit Go.Proofs.Ytibfbgjlieojfaa.Base Go.Proofs.Ytibfbgjlieojfaa.Nums Go.Proofs.Ytibfbgjlieojfaa.Cov Go.Proofs.Ytibfbgjlieojfaa.Mem Go.Proofs.Ytibfbgjlieojfaa.Lst

theorem num_calls (a : Int) (w : World) : Calls Try.prog 12 #[.int .i64 a] w fun e w' => e = .returned (.int .i64 a) ∧ w' = w := by
  go_enter Try.func12, Try.ntmps12
  go_wp2
  go_ret
  simp
/-- Two slices of the same addresses are the same. -/
theorem same_calls (A B : Option Addr) (n c d : Nat) (l : List (Nat × Nat)) (w : World) (ha : Adr w A n l) (hb : Adr w B n l) (hn : n ≤ 1000000000000) :
    Calls Try.prog 26 #[.slice A n c, .slice B n d] w (fun e w' => e = .returned (.bool true) ∧ ∃ k, w' = w.drewN k) := by
  go_enter Try.func26, Try.ntmps26
  go_wp2
  go_loopw [5] (fun i wr => ∃ k : Nat, i = .int .i64 k ∧ k ≤ n ∧ Hid (∃ j, wr = w.drewN j)) (fun i _ => n - (intOf i).toNat)
  case atStart => exact ⟨0, rfl, by omega, Lib.hid ⟨0, rfl⟩⟩
  case round =>
    obtain ⟨k, rfl, hk, hw⟩ := hrel
    obtain ⟨j, rfl⟩ := hw.out
    clear hw
    by_cases hlt : k < n
    · obtain ⟨ad, X, rfl, _, hX, hXb, a1, a2⟩ := ha.at2 k hlt
      obtain ⟨bd, Y, rfl, _, hY, hYb, b1, b2⟩ := hb.at2 k hlt
      have hlt' : (k : Int) < (n : Int) := by omega
      clear ha hb hXb hYb
      generalize l.getD k (0, 0) = z at *
      obtain ⟨z1, z2⟩ := z
      dsimp only at a1 a2 b1 b2
      go_wp2
      go_quiet (fail)
      go_wp2
      go_roundw
      case rel => exact ⟨k + 1, by go_num, by omega, Lib.hid ⟨j + nq, rfl⟩⟩
      case measure => simp only [intOf]; omega
    · go_wp2
      go_ret
      exact ⟨rfl, j, rfl⟩
theorem chain {w W W' : World} (B : Below w.heap.size w W) (C : Below W.heap.size W W') : Below w.heap.size w W' := B.trans (C.mono B.size)
theorem drewN_below (w : World) (k : Nat) : Below w.heap.size w (w.drewN k) := ⟨rfl, rfl, rfl, Nat.le_refl _, fun _ _ => rfl⟩
theorem Adr.nil (w : World) (A : Option Addr) : Adr w A 0 [] := ⟨rfl, fun h => absurd h (by omega)⟩
theorem treeCover_walk (lo hi : Int) (w : World) (_ : (Lit.int .i64 lo).wf = true) (_ : (Lit.int .i64 hi).wf = true) :
    Calls Try.prog 6 #[.int .i64 lo, .int .i64 hi] w fun e w' => e = .returned (.bool true) ∧ Below w.heap.size w w' := by
  by_cases hr : Refused lo hi
  · have HM := Lib.hid (fun W => mcover_no lo hi W hr)
    have HR := Lib.hid (fun W => rcover_no lo hi W hr)
    have HS := Lib.hid (fun W => same_calls none none 0 0 0 [] W (Adr.nil W none) (Adr.nil W none) (by omega))
    clear hr
    go_enter Try.func6, Try.ntmps6
    go_wp2_with (first
      | (go_at_call 24; ((with_reducible refine (HM.out _).mono ?_); rintro e w' ⟨rfl, rfl⟩))
      | (go_at_call 25; ((with_reducible refine (HR.out _).mono ?_); rintro e w' ⟨rfl, rfl⟩))
      | (go_at_call 12; ((with_reducible refine (num_calls _ _).mono ?_); rintro e w' ⟨rfl, rfl⟩))
      | (go_at_call 26; ((with_reducible refine (HS.out _).mono ?_); rintro e w' ⟨rfl, k, rfl⟩)))
    go_ret
    exact ⟨rfl, drewN_below _ _⟩
  · obtain ⟨a, ha⟩ : ∃ a : Nat, lo = a := ⟨lo.toNat, by unfold Refused at hr; omega⟩
    obtain ⟨b, hb⟩ : ∃ b : Nat, hi = b := ⟨hi.toNat, by unfold Refused at hr; omega⟩
    subst ha hb
    have hl : a ≤ b := by unfold Refused at hr; omega
    have hh : b ≤ 4611686018427387904 := by unfold Refused at hr; omega
    have hlen := greedy_len a b hl hh
    have HM := Lib.hid (fun W => mcover_yes a b W hl hh)
    have HR := Lib.hid (fun W => rcover_yes a b W hl hh)
    have HS := Lib.hid (fun A B c d W ha hb => same_calls A B (greedy a b).length c d (greedy a b) W ha hb (by omega))
    clear hr hlen
    go_enter Try.func6, Try.ntmps6
    go_wp2_with fail
    refine (HM.out _).mono ?_
    rintro e w1 ⟨v1, rfl, o1, _, b1⟩
    go_wp2_with fail
    refine (HR.out _).mono ?_
    rintro e w2 ⟨v2, rfl, o2, _, b2⟩
    obtain ⟨A, c, rfl, _, s1, _⟩ := OwnA.shape o1
    obtain ⟨B, d, rfl, _, s2, _⟩ := OwnA.shape o2
    have HF := Lib.hid (chain b1 b2)
    have HA := Lib.hid (s1.below b2)
    have HB := Lib.hid s2
    clear s1 s2 o1 o2 b1 b2
    go_wp2_with (first
      | (go_at_call 12; ((with_reducible refine (num_calls _ _).mono ?_); rintro e w' ⟨rfl, rfl⟩))
      | (go_at_call 26; ((with_reducible refine (HS.out _ _ _ _ _ HA.out HB.out).mono ?_); rintro e w' ⟨rfl, k, rfl⟩)))
    go_ret
    exact ⟨rfl, chain HF.out (drewN_below _ _)⟩
end Go.Proofs.Ytibfbgjlieojfaa.Cover
