/- ShaKnown: its walk. -/
import Derived.Test.YtkhcinnpfpkhnaaDoorShaKnown
set_option linter.unusedVariables false
set_option linter.unusedSimpArgs false
namespace Go.Proofs.YtkhcinnpfpkhnaaDoor.ShaKnown
open Go.RowKit Go.Proofs.YtkhcinnpfpkhnaaDoor.Base Go.Proofs.YtkhcinnpfpkhnaaDoor.ShaPlain Go.Proofs.YtkhcinnpfpkhnaaDoor.Mem Go.Proofs.YtkhcinnpfpkhnaaDoor.Buf Go.Proofs.YtkhcinnpfpkhnaaDoor.ShaTake Go.Proofs.YtkhcinnpfpkhnaaDoor.ShaNew Go.Proofs.YtkhcinnpfpkhnaaDoor.ShaDig Go.Proofs.YtkhcinnpfpkhnaaDoor.ShaSum Go.Proofs.YtkhcinnpfpkhnaaDoor.ShaLaws

theorem dig_0 : digest K0 I0 [] = [227, 176, 196, 66, 152, 252, 28, 20, 154, 251, 244, 200, 153, 111, 185, 36, 39, 174, 65, 228, 100, 155, 147, 76, 164, 149, 153, 27, 120, 82, 184, 85] := by decide +kernel
theorem hex_0 : hex (dig ⟨#[]⟩) = ⟨#[101, 51, 98, 48, 99, 52, 52, 50, 57, 56, 102, 99, 49, 99, 49, 52, 57, 97, 102, 98, 102, 52, 99, 56, 57, 57, 54, 102, 98, 57, 50, 52, 50, 55, 97, 101, 52, 49, 101, 52, 54, 52, 57, 98, 57, 51, 52, 99, 97, 52, 57, 53, 57, 57, 49, 98, 55, 56, 53, 50, 98, 56, 53, 53]⟩ := by
  rw [hex, dig_nb, show nbN ⟨#[]⟩ = [] from rfl, dig_0]
  rfl
theorem dig_1 : digest K0 I0 [97, 98, 99] = [186, 120, 22, 191, 143, 1, 207, 234, 65, 65, 64, 222, 93, 174, 34, 35, 176, 3, 97, 163, 150, 23, 122, 156, 180, 16, 255, 97, 242, 0, 21, 173] := by decide +kernel
theorem hex_1 : hex (dig ⟨#[97, 98, 99]⟩) = ⟨#[98, 97, 55, 56, 49, 54, 98, 102, 56, 102, 48, 49, 99, 102, 101, 97, 52, 49, 52, 49, 52, 48, 100, 101, 53, 100, 97, 101, 50, 50, 50, 51, 98, 48, 48, 51, 54, 49, 97, 51, 57, 54, 49, 55, 55, 97, 57, 99, 98, 52, 49, 48, 102, 102, 54, 49, 102, 50, 48, 48, 49, 53, 97, 100]⟩ := by
  rw [hex, dig_nb, show nbN ⟨#[97, 98, 99]⟩ = [97, 98, 99] from rfl, dig_1]
  rfl
theorem dig_2 : digest K0 I0 [97, 98, 99, 100, 98, 99, 100, 101, 99, 100, 101, 102, 100, 101, 102, 103, 101, 102, 103, 104, 102, 103, 104, 105, 103, 104, 105, 106, 104, 105, 106, 107, 105, 106, 107, 108, 106, 107, 108, 109, 107, 108, 109, 110, 108, 109, 110, 111, 109, 110, 111, 112, 110, 111, 112, 113] = [36, 141, 106, 97, 210, 6, 56, 184, 229, 192, 38, 147, 12, 62, 96, 57, 163, 60, 228, 89, 100, 255, 33, 103, 246, 236, 237, 212, 25, 219, 6, 193] := by decide +kernel
theorem hex_2 : hex (dig ⟨#[97, 98, 99, 100, 98, 99, 100, 101, 99, 100, 101, 102, 100, 101, 102, 103, 101, 102, 103, 104, 102, 103, 104, 105, 103, 104, 105, 106, 104, 105, 106, 107, 105, 106, 107, 108, 106, 107, 108, 109, 107, 108, 109, 110, 108, 109, 110, 111, 109, 110, 111, 112, 110, 111, 112, 113]⟩) = ⟨#[50, 52, 56, 100, 54, 97, 54, 49, 100, 50, 48, 54, 51, 56, 98, 56, 101, 53, 99, 48, 50, 54, 57, 51, 48, 99, 51, 101, 54, 48, 51, 57, 97, 51, 51, 99, 101, 52, 53, 57, 54, 52, 102, 102, 50, 49, 54, 55, 102, 54, 101, 99, 101, 100, 100, 52, 49, 57, 100, 98, 48, 54, 99, 49]⟩ := by
  rw [hex, dig_nb, show nbN ⟨#[97, 98, 99, 100, 98, 99, 100, 101, 99, 100, 101, 102, 100, 101, 102, 103, 101, 102, 103, 104, 102, 103, 104, 105, 103, 104, 105, 106, 104, 105, 106, 107, 105, 106, 107, 108, 106, 107, 108, 109, 107, 108, 109, 110, 108, 109, 110, 111, 109, 110, 111, 112, 110, 111, 112, 113]⟩ = [97, 98, 99, 100, 98, 99, 100, 101, 99, 100, 101, 102, 100, 101, 102, 103, 101, 102, 103, 104, 102, 103, 104, 105, 103, 104, 105, 106, 104, 105, 106, 107, 105, 106, 107, 108, 106, 107, 108, 109, 107, 108, 109, 110, 108, 109, 110, 111, 109, 110, 111, 112, 110, 111, 112, 113] from rfl, dig_2]
  rfl
theorem hex_3 : hex (cut 4 ⟨#[97, 98, 99]⟩) = ⟨#[98, 97, 55, 56, 49, 54, 98, 102]⟩ := by
  rw [hex, cut, nbN_extract, dig_nb, show nbN ⟨#[97, 98, 99]⟩ = [97, 98, 99] from rfl, dig_1]
  rfl
set_option maxHeartbeats 4000000 in
set_option maxRecDepth 100000 in
theorem shaKnown_walk (w : World)
    (h3 : ∀ i : Nat, i < 8 → w.cell? ⟨1, i, none⟩ = some (.int .u32 (Ints I0.list i))) (h4 : ∀ i : Nat, i < 64 → w.cell? ⟨3, i, none⟩ = some (.int .u32 (Ints K0 i))) :
    Calls Tryd.prog 7 #[] w fun e w' => e = .returned (.bool true) ∧ Below w.heap.size w w' := by
  have hT := tab_of h3 h4
  clear h3 h4
  have HS : Hid (∀ (s : ByteArray) (W : World), s.size ≤ 900000000000000 → Below w.heap.size w W → Calls Tryd.prog 21 #[.string s] W (Gives (dig s) W)) :=
    Lib.hid fun s W hs hb => shaSum_calls s hs W (hT.below hb)
  have HC : Hid (∀ (W : World), Below w.heap.size w W → Calls Tryd.prog 28 #[.string ⟨#[97, 98, 99]⟩, .int .i64 4] W (Gives (cut 4 ⟨#[97, 98, 99]⟩) W)) :=
    Lib.hid fun W hb => shaCut_calls ⟨#[97, 98, 99]⟩ (by decide) 4 W (hT.below hb)
  have H0 : Hid (∀ W : World, Calls Tryd.prog 27 #[.string (dig ⟨#[]⟩)] W (Gives ⟨#[101, 51, 98, 48, 99, 52, 52, 50, 57, 56, 102, 99, 49, 99, 49, 52, 57, 97, 102, 98, 102, 52, 99, 56, 57, 57, 54, 102, 98, 57, 50, 52, 50, 55, 97, 101, 52, 49, 101, 52, 54, 52, 57, 98, 57, 51, 52, 99, 97, 52, 57, 53, 57, 57, 49, 98, 55, 56, 53, 50, 98, 56, 53, 53]⟩ W)) := Lib.hid fun W => by rw [← hex_0]; exact hexa_calls _ (by rw [dig_size]; decide) (by rw [dig_size]; decide) W
  have H1 : Hid (∀ W : World, Calls Tryd.prog 27 #[.string (dig ⟨#[97, 98, 99]⟩)] W (Gives ⟨#[98, 97, 55, 56, 49, 54, 98, 102, 56, 102, 48, 49, 99, 102, 101, 97, 52, 49, 52, 49, 52, 48, 100, 101, 53, 100, 97, 101, 50, 50, 50, 51, 98, 48, 48, 51, 54, 49, 97, 51, 57, 54, 49, 55, 55, 97, 57, 99, 98, 52, 49, 48, 102, 102, 54, 49, 102, 50, 48, 48, 49, 53, 97, 100]⟩ W)) := Lib.hid fun W => by rw [← hex_1]; exact hexa_calls _ (by rw [dig_size]; decide) (by rw [dig_size]; decide) W
  have H2 : Hid (∀ W : World, Calls Tryd.prog 27 #[.string (dig ⟨#[97, 98, 99, 100, 98, 99, 100, 101, 99, 100, 101, 102, 100, 101, 102, 103, 101, 102, 103, 104, 102, 103, 104, 105, 103, 104, 105, 106, 104, 105, 106, 107, 105, 106, 107, 108, 106, 107, 108, 109, 107, 108, 109, 110, 108, 109, 110, 111, 109, 110, 111, 112, 110, 111, 112, 113]⟩)] W (Gives ⟨#[50, 52, 56, 100, 54, 97, 54, 49, 100, 50, 48, 54, 51, 56, 98, 56, 101, 53, 99, 48, 50, 54, 57, 51, 48, 99, 51, 101, 54, 48, 51, 57, 97, 51, 51, 99, 101, 52, 53, 57, 54, 52, 102, 102, 50, 49, 54, 55, 102, 54, 101, 99, 101, 100, 100, 52, 49, 57, 100, 98, 48, 54, 99, 49]⟩ W)) := Lib.hid fun W => by rw [← hex_2]; exact hexa_calls _ (by rw [dig_size]; decide) (by rw [dig_size]; decide) W
  have H3 : Hid (∀ W : World, Calls Tryd.prog 27 #[.string (cut 4 ⟨#[97, 98, 99]⟩)] W (Gives ⟨#[98, 97, 55, 56, 49, 54, 98, 102]⟩ W)) := Lib.hid fun W => by rw [← hex_3]; exact hexa_calls _ (by rw [cut_size]; decide) (by rw [cut_size]; decide) W
  have B0 := Below.refl w.heap.size w
  have hz0 := B0.size
  clear hT
  go_enter Tryd.func7, Tryd.ntmps7
  go_wp2_with fail
  refine (HS.out ⟨#[]⟩ w (by decide) B0).mono ?_; rintro e W1 ⟨rfl, C1⟩
  have B1 := B0.trans (C1.mono hz0)
  have hz1 := B1.size
  clear C1 B0
  go_wp2_with fail
  refine (H0.out W1).mono ?_; rintro e W2 ⟨rfl, C2⟩
  have B2 := B1.trans (C2.mono hz1)
  have hz2 := B2.size
  clear C2 B1
  go_wp2_with fail
  refine (HS.out ⟨#[97, 98, 99]⟩ W2 (by decide) B2).mono ?_; rintro e W3 ⟨rfl, C3⟩
  have B3 := B2.trans (C3.mono hz2)
  have hz3 := B3.size
  clear C3 B2
  go_wp2_with fail
  refine (H1.out W3).mono ?_; rintro e W4 ⟨rfl, C4⟩
  have B4 := B3.trans (C4.mono hz3)
  have hz4 := B4.size
  clear C4 B3
  go_wp2_with fail
  refine (HS.out ⟨#[97, 98, 99, 100, 98, 99, 100, 101, 99, 100, 101, 102, 100, 101, 102, 103, 101, 102, 103, 104, 102, 103, 104, 105, 103, 104, 105, 106, 104, 105, 106, 107, 105, 106, 107, 108, 106, 107, 108, 109, 107, 108, 109, 110, 108, 109, 110, 111, 109, 110, 111, 112, 110, 111, 112, 113]⟩ W4 (by decide) B4).mono ?_; rintro e W5 ⟨rfl, C5⟩
  have B5 := B4.trans (C5.mono hz4)
  have hz5 := B5.size
  clear C5 B4
  go_wp2_with fail
  refine (H2.out W5).mono ?_; rintro e W6 ⟨rfl, C6⟩
  have B6 := B5.trans (C6.mono hz5)
  have hz6 := B6.size
  clear C6 B5
  go_wp2_with fail
  refine (HC.out W6 B6).mono ?_; rintro e W7 ⟨rfl, C7⟩
  have B7 := B6.trans (C7.mono hz6)
  have hz7 := B7.size
  clear C7 B6
  go_wp2_with fail
  refine (H3.out W7).mono ?_; rintro e W8 ⟨rfl, C8⟩
  have B8 := B7.trans (C8.mono hz7)
  clear C8 B7
  go_wp2
  go_ret
  exact ⟨rfl, B8⟩
end Go.Proofs.YtkhcinnpfpkhnaaDoor.ShaKnown
