/- NumsDigits: the walk. -/
import Derived.Test.YthmcibahdbglnaaDoorNums
import Derived.Test.YthmcibahdbglnaaDoorOnes
namespace Go.Proofs.YthmcibahdbglnaaDoor.Digits
open Go.RowKit Go.Proofs.YthmcibahdbglnaaDoor.Base Go.Proofs.YthmcibahdbglnaaDoor.Nums Go.Proofs.YthmcibahdbglnaaDoor.Ones

theorem zeros_any (n : Int) (h1 : n ≤ 9223372036854775807) : ∃ z, (∀ w, Calls Tryd.prog 11 #[.int .i64 n] w (Num z w)) ∧ ∀ w, Calls Tryd.prog 12 #[.int .i64 n] w (Num z w) := by
  by_cases h : n ≤ 0
  · exact ⟨63, fun w => zeros_neg n w h, fun w => rzeros_neg n w h⟩
  · obtain ⟨N, rfl⟩ := Int.eq_ofNat_of_zero_le (show 0 ≤ n by omega)
    exact ⟨ctz N, fun w => zeros_nat N w (by omega) (by omega), fun w => rzeros_nat N w (by omega) (by omega)⟩
theorem below_any (n : Int) (h1 : n ≤ 9223372036854775807) : ∃ p e, (∀ w, Calls Tryd.prog 5 #[.int .i64 n] w (Nums p e w)) ∧ ∀ w, Calls Tryd.prog 6 #[.int .i64 n] w (Nums p e w) := by
  by_cases h : n < 2
  · exact ⟨0, 10, fun w => below_no n w h, fun w => rbelow_no n w h⟩
  · obtain ⟨N, rfl⟩ := Int.eq_ofNat_of_zero_le (show 0 ≤ n by omega)
    exact ⟨_, 0, fun w => below_yes N h1 w (by omega), fun w => rbelow_yes N (by omega) w (by omega)⟩
set_option maxHeartbeats 1000000 in
theorem walk0 (n : Int) (wn : (Lit.int .i64 n).wf = true) (w : World) (HT : Table w) : Calls Tryd.prog 3 #[.int .i64 n] w fun e w' => e = .returned (.bool true) ∧ w = w' := by
  obtain ⟨n0, n1⟩ := wf_i64 wn
  obtain ⟨p, e, b1, b2⟩ := below_any n n1
  obtain ⟨z, z1, z2⟩ := zeros_any n n1
  have d1 := fun w => bits_any n n1 w
  have d2 := fun w => rbits_any n n1 w
  have o1 := ones_any n n1 w ⟨HT⟩
  have o2 := rones_any n n1 w
  have c1 := fun w => ceil_any n n0 n1 w
  have c2 := fun w => rceil_any n n1 w
  generalize (nbits n.toNat : Int) = d at *
  generalize (popc n.toNat : Int) = o at *
  generalize (nbits (n.toNat - 1) : Int) = c at *
  have B1 := Lib.hid b1
  have B2 := Lib.hid b2
  have Z1 := Lib.hid z1
  have Z2 := Lib.hid z2
  have D1 := Lib.hid d1
  have D2 := Lib.hid d2
  have O1 := Lib.hid o1
  have O2 := Lib.hid o2
  have C1 := Lib.hid c1
  have C2 := Lib.hid c2
  clear b1 b2 z1 z2 d1 d2 o1 o2 c1 c2 wn n0 n1 HT
  go_enter Tryd.func3, Tryd.ntmps3
  go_wp2_with (first | (go_at_call 5; refine (B1.out _).mono ?_; rintro e w' ⟨rfl, rfl⟩) | (go_at_call 6; refine (B2.out _).mono ?_; rintro e w' ⟨rfl, rfl⟩) | (go_at_call 7; refine (D1.out _).mono ?_; rintro e w' ⟨rfl, rfl⟩) | (go_at_call 8; refine (D2.out _).mono ?_; rintro e w' ⟨rfl, rfl⟩) | (go_at_call 9; refine O1.out.mono ?_; rintro e w' ⟨rfl, rfl⟩) | (go_at_call 10; refine O2.out.mono ?_; rintro e w' ⟨rfl, rfl⟩) | (go_at_call 11; refine (Z1.out _).mono ?_; rintro e w' ⟨rfl, rfl⟩) | (go_at_call 12; refine (Z2.out _).mono ?_; rintro e w' ⟨rfl, rfl⟩) | (go_at_call 13; refine (C1.out _).mono ?_; rintro e w' ⟨rfl, rfl⟩) | (go_at_call 14; refine (C2.out _).mono ?_; rintro e w' ⟨rfl, rfl⟩))
  go_ret
  exact ⟨by simp, rfl⟩
theorem walk (n : Int) (w : World) (wn : (Lit.int .i64 n).wf = true) (HT : ∀ i : Nat, i < 16 → w.cell? ⟨0, i, none⟩ = some (.int .i64 (halves.getD i 0))) :
    Calls Tryd.prog 3 #[.int .i64 n] w fun e w' => e = .returned (.bool true) ∧ Below w.heap.size w w' :=
  (walk0 n wn w HT).mono fun _ _ ⟨he, hw⟩ => ⟨he, hw ▸ Below.refl _ _⟩
end Go.Proofs.YthmcibahdbglnaaDoor.Digits
