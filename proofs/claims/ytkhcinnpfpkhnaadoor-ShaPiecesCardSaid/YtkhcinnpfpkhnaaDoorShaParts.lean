/- ShaParts: its walk. -/
import Derived.Test.YtkhcinnpfpkhnaaDoorShaLaws2
set_option linter.unusedVariables false
set_option linter.unusedSimpArgs false
namespace Go.Proofs.YtkhcinnpfpkhnaaDoor.ShaLaws
open Go.RowKit Go.Proofs.YtkhcinnpfpkhnaaDoor.Base Go.Proofs.YtkhcinnpfpkhnaaDoor.ShaPlain Go.Proofs.YtkhcinnpfpkhnaaDoor.Mem Go.Proofs.YtkhcinnpfpkhnaaDoor.ShaTake Go.Proofs.YtkhcinnpfpkhnaaDoor.ShaNew Go.Proofs.YtkhcinnpfpkhnaaDoor.ShaDig Go.Proofs.YtkhcinnpfpkhnaaDoor.ShaSum Go.Proofs.YtkhcinnpfpkhnaaDoor.ShaKit Go.Proofs.YtkhcinnpfpkhnaaDoor.ShaWrite Go.Proofs.YtkhcinnpfpkhnaaDoor.ShaReset

theorem empty_app (x : ByteArray) : (⟨#[]⟩ : ByteArray) ++ x = x := by
  apply Base.ext_toList
  rw [Base.toList_data, Base.toList_data, ByteArray.data_append]
  simp
theorem size_app (x y : ByteArray) : (x ++ y).size = x.size + y.size := ByteArray.size_append
set_option maxHeartbeats 4000000 in
set_option maxRecDepth 100000 in
theorem parts_no (x one two : ByteArray) (w : World) (hx : x.size ≤ 140737488351232) (h1 : one.size ≤ 140737488351232) (h2 : two.size ≤ 140737488351232) (hT : Tab w) :
    Calls Tryd.prog 6 #[.string x, .string one, .string two, .bool false] w (AllTrue w) := by
  have hs2 := Lib.hid (size_app x two)
  have hs1 := Lib.hid (size_app x one)
  have hs3 := Lib.hid (size_app (x ++ one) two)
  have hd := dig_size (x ++ two)
  have hm1_ : (x ++ one).size ≤ 300000000000000 := by rw [hs1.out]; omega
  have hm2_ : (x ++ one ++ two).size ≤ 600000000000000 := by rw [hs3.out]; omega
  have hm3_ : (x ++ two).size ≤ 600000000000000 := by rw [hs2.out]; omega
  go_enter Tryd.func6, Tryd.ntmps6
  go_wp2_with fail
  refine (newT w hT).mono ?_; rintro e W1 ⟨b1, rfl, hg1, B1, H1⟩
  have T1 := hT.below B1
  go_wp2_with fail
  refine (writeT W1 T1 b1 _ H1 x (by show 0 + _ ≤ _; omega)).mono ?_; rintro e W2 ⟨rfl, G2, P2, T2⟩
  rw [empty_app] at P2
  have B2 := belowG B1 G2 hg1
  have hz2 := B2.size
  have hl2 := P2.lt
  clear B1 T1 G2 H1
  go_wp2_with fail
  refine (copyT W2 T2 b1 _ P2).mono ?_; rintro e W3 ⟨b2, rfl, hg2, C3, Q3⟩
  have P3 := P2.below C3
  have T3 := T2.below C3
  have B3 := B2.trans (C3.mono hz2)
  have hn : some b2 ≠ some b1 := by intro e; have := Option.some.inj e; omega
  have hn' : some b1 ≠ some b2 := fun e => hn e.symm
  clear P2 T2 B2 C3
  go_wp2_with fail
  refine (writeT W3 T3 b1 _ P3 one (by omega)).mono ?_; rintro e W4 ⟨rfl, G4, P4, T4⟩
  have B4 := belowG B3 G4 hg1
  have Q4 := Q3.kept G4 hn
  clear P3 T3 B3 G4 Q3
  have B5 := B4
  have P5 := P4
  have Q5 := Q4
  have T5 := T4
  obtain ⟨W5, rfl⟩ : ∃ W5 : World, W5 = W4 := ⟨_, rfl⟩
  go_wp2_with fail
  refine (writeT W5 T5 b2 _ Q5 two (by omega)).mono ?_; rintro e W6 ⟨rfl, G6, Q6, T6⟩
  have B6 := belowG B5 G6 (by omega)
  have P6 := P5.kept G6 hn'
  have hz6 := B6.size
  have hl6 := P6.lt
  have hk6 := Q6.lt
  clear P5 T5 B5 G6 Q5
  go_wp2_with fail
  refine (copyT W6 T6 b1 _ P6).mono ?_; rintro e W7 ⟨b3, rfl, hg3, C7, R7⟩
  have P7 := P6.below C7
  have Q7 := Q6.below C7
  have T7 := T6.below C7
  have B7 := B6.trans (C7.mono hz6)
  have hm1 : some b1 ≠ some b3 := by intro e; have := Option.some.inj e; omega
  have hm2 : some b2 ≠ some b3 := by intro e; have := Option.some.inj e; omega
  clear P6 Q6 T6 B6 C7
  go_wp2_with fail
  refine (writeT W7 T7 b3 _ R7 two (by omega)).mono ?_; rintro e W8 ⟨rfl, G8, R8, T8⟩
  have B8 := belowG B7 G8 (by omega)
  have P8 := P7.kept G8 hm1
  have Q8 := Q7.kept G8 hm2
  have hz8 := B8.size
  clear P7 Q7 T7 B7 G8 R7
  go_wp2_with fail
  refine (sumT W8 T8 b1 _ P8 (by omega)).mono ?_; rintro e W9 ⟨rfl, C9⟩
  have P9 := P8.below C9
  have Q9 := Q8.below C9
  have R9 := R8.below C9
  have T9 := T8.below C9
  have B9 := B8.trans (C9.mono hz8)
  have hz9 := B9.size
  clear P8 Q8 R8 T8 B8 C9
  go_wp2_with fail
  refine (shaSum_calls (x ++ one) (by omega) W9 T9).mono ?_; rintro e W10 ⟨rfl, C10⟩
  have P10 := P9.below C10
  have Q10 := Q9.below C10
  have R10 := R9.below C10
  have T10 := T9.below C10
  have B10 := B9.trans (C10.mono hz9)
  have hz10 := B10.size
  clear P9 Q9 R9 T9 B9 C10
  go_wp2_with fail
  refine (sumT W10 T10 b2 _ Q10 (by omega)).mono ?_; rintro e W11 ⟨rfl, C11⟩
  have P11 := P10.below C11
  have Q11 := Q10.below C11
  have R11 := R10.below C11
  have T11 := T10.below C11
  have B11 := B10.trans (C11.mono hz10)
  have hz11 := B11.size
  clear P10 Q10 R10 T10 B10 C11
  go_wp2_with fail
  refine (shaSum_calls (x ++ two) (by omega) W11 T11).mono ?_; rintro e W12 ⟨rfl, C12⟩
  have P12 := P11.below C12
  have Q12 := Q11.below C12
  have R12 := R11.below C12
  have T12 := T11.below C12
  have B12 := B11.trans (C12.mono hz11)
  have hz12 := B12.size
  clear P11 Q11 R11 T11 B11 C12
  go_wp2_with fail
  refine (sumT W12 T12 b3 _ R12 (by omega)).mono ?_; rintro e W13 ⟨rfl, C13⟩
  have P13 := P12.below C13
  have Q13 := Q12.below C13
  have R13 := R12.below C13
  have T13 := T12.below C13
  have B13 := B12.trans (C13.mono hz12)
  have hz13 := B13.size
  clear P12 Q12 R12 T12 B12 C13
  go_wp2_with fail
  refine (shaSum_calls (x ++ one ++ two) (by omega) W13 T13).mono ?_; rintro e W14 ⟨rfl, C14⟩
  have P14 := P13.below C14
  have Q14 := Q13.below C14
  have R14 := R13.below C14
  have T14 := T13.below C14
  have B14 := B13.trans (C14.mono hz13)
  have hz14 := B14.size
  clear P13 Q13 R13 T13 B13 C14
  have hs3' : ((x ++ one ++ two).size : Int) = ((x ++ one).size : Int) + (two.size : Int) := by rw [hs3.out]; omega
  have hs2' : ((x ++ two).size : Int) = (x.size : Int) + (two.size : Int) := by rw [hs2.out]; omega
  go_wp2_with fail
  refine (lenT W14 b1 _ P14).mono ?_; rintro e _ ⟨rfl, rfl⟩
  go_wp2_with fail
  refine (lenT W14 b2 _ Q14).mono ?_; rintro e _ ⟨rfl, rfl⟩
  go_wp2_with fail
  refine (lenT W14 b3 _ R14).mono ?_; rintro e _ ⟨rfl, rfl⟩
  go_wp2_with fail
  refine (sumT W14 T14 b2 _ Q14 (by omega)).mono ?_; rintro e W15 ⟨rfl, C15⟩
  have B15 := B14.trans (C15.mono hz14)
  clear P14 Q14 R14 T14 B14 C15
  go_wp2
  go_ret
  exact ⟨by simp, B15⟩
set_option maxHeartbeats 4000000 in
set_option maxRecDepth 100000 in
theorem parts_yes (x one two : ByteArray) (w : World) (hx : x.size ≤ 140737488351232) (h1 : one.size ≤ 140737488351232) (h2 : two.size ≤ 140737488351232) (hT : Tab w) :
    Calls Tryd.prog 6 #[.string x, .string one, .string two, .bool true] w (AllTrue w) := by
  have hs2 := Lib.hid (size_app x two)
  have hs1 := Lib.hid (size_app x one)
  have hs3 := Lib.hid (size_app ((⟨#[]⟩ : ByteArray)) two)
  have hd := dig_size (x ++ two)
  have hm1_ : ((⟨#[]⟩ : ByteArray)).size ≤ 300000000000000 := by show 0 ≤ _; omega
  have hm2_ : ((⟨#[]⟩ : ByteArray) ++ two).size ≤ 600000000000000 := by rw [hs3.out]; omega
  have hm3_ : (x ++ two).size ≤ 600000000000000 := by rw [hs2.out]; omega
  go_enter Tryd.func6, Tryd.ntmps6
  go_wp2_with fail
  refine (newT w hT).mono ?_; rintro e W1 ⟨b1, rfl, hg1, B1, H1⟩
  have T1 := hT.below B1
  go_wp2_with fail
  refine (writeT W1 T1 b1 _ H1 x (by show 0 + _ ≤ _; omega)).mono ?_; rintro e W2 ⟨rfl, G2, P2, T2⟩
  rw [empty_app] at P2
  have B2 := belowG B1 G2 hg1
  have hz2 := B2.size
  have hl2 := P2.lt
  clear B1 T1 G2 H1
  go_wp2_with fail
  refine (copyT W2 T2 b1 _ P2).mono ?_; rintro e W3 ⟨b2, rfl, hg2, C3, Q3⟩
  have P3 := P2.below C3
  have T3 := T2.below C3
  have B3 := B2.trans (C3.mono hz2)
  have hn : some b2 ≠ some b1 := by intro e; have := Option.some.inj e; omega
  have hn' : some b1 ≠ some b2 := fun e => hn e.symm
  clear P2 T2 B2 C3
  go_wp2_with fail
  refine (writeT W3 T3 b1 _ P3 one (by omega)).mono ?_; rintro e W4 ⟨rfl, G4, P4, T4⟩
  have B4 := belowG B3 G4 hg1
  have Q4 := Q3.kept G4 hn
  clear P3 T3 B3 G4 Q3
  go_wp2_with fail
  refine (resetT W4 T4 b1 _ P4).mono ?_; rintro e W5 ⟨rfl, G5, P5, T5⟩
  have B5 := belowG B4 G5 hg1
  have Q5 := Q4.kept G5 hn
  clear P4 T4 B4 G5 Q4
  go_wp2_with fail
  refine (writeT W5 T5 b2 _ Q5 two (by omega)).mono ?_; rintro e W6 ⟨rfl, G6, Q6, T6⟩
  have B6 := belowG B5 G6 (by omega)
  have P6 := P5.kept G6 hn'
  have hz6 := B6.size
  have hl6 := P6.lt
  have hk6 := Q6.lt
  clear P5 T5 B5 G6 Q5
  go_wp2_with fail
  refine (copyT W6 T6 b1 _ P6).mono ?_; rintro e W7 ⟨b3, rfl, hg3, C7, R7⟩
  have P7 := P6.below C7
  have Q7 := Q6.below C7
  have T7 := T6.below C7
  have B7 := B6.trans (C7.mono hz6)
  have hm1 : some b1 ≠ some b3 := by intro e; have := Option.some.inj e; omega
  have hm2 : some b2 ≠ some b3 := by intro e; have := Option.some.inj e; omega
  clear P6 Q6 T6 B6 C7
  go_wp2_with fail
  refine (writeT W7 T7 b3 _ R7 two (by omega)).mono ?_; rintro e W8 ⟨rfl, G8, R8, T8⟩
  have B8 := belowG B7 G8 (by omega)
  have P8 := P7.kept G8 hm1
  have Q8 := Q7.kept G8 hm2
  have hz8 := B8.size
  clear P7 Q7 T7 B7 G8 R7
  go_wp2_with fail
  refine (sumT W8 T8 b1 _ P8 (by omega)).mono ?_; rintro e W9 ⟨rfl, C9⟩
  have P9 := P8.below C9
  have Q9 := Q8.below C9
  have R9 := R8.below C9
  have T9 := T8.below C9
  have B9 := B8.trans (C9.mono hz8)
  have hz9 := B9.size
  clear P8 Q8 R8 T8 B8 C9
  go_wp2_with fail
  refine (shaSum_calls ((⟨#[]⟩ : ByteArray)) (by omega) W9 T9).mono ?_; rintro e W10 ⟨rfl, C10⟩
  have P10 := P9.below C10
  have Q10 := Q9.below C10
  have R10 := R9.below C10
  have T10 := T9.below C10
  have B10 := B9.trans (C10.mono hz9)
  have hz10 := B10.size
  clear P9 Q9 R9 T9 B9 C10
  go_wp2_with fail
  refine (sumT W10 T10 b2 _ Q10 (by omega)).mono ?_; rintro e W11 ⟨rfl, C11⟩
  have P11 := P10.below C11
  have Q11 := Q10.below C11
  have R11 := R10.below C11
  have T11 := T10.below C11
  have B11 := B10.trans (C11.mono hz10)
  have hz11 := B11.size
  clear P10 Q10 R10 T10 B10 C11
  go_wp2_with fail
  refine (shaSum_calls (x ++ two) (by omega) W11 T11).mono ?_; rintro e W12 ⟨rfl, C12⟩
  have P12 := P11.below C12
  have Q12 := Q11.below C12
  have R12 := R11.below C12
  have T12 := T11.below C12
  have B12 := B11.trans (C12.mono hz11)
  have hz12 := B12.size
  clear P11 Q11 R11 T11 B11 C12
  go_wp2_with fail
  refine (sumT W12 T12 b3 _ R12 (by omega)).mono ?_; rintro e W13 ⟨rfl, C13⟩
  have P13 := P12.below C13
  have Q13 := Q12.below C13
  have R13 := R12.below C13
  have T13 := T12.below C13
  have B13 := B12.trans (C13.mono hz12)
  have hz13 := B13.size
  clear P12 Q12 R12 T12 B12 C13
  go_wp2_with fail
  refine (shaSum_calls ((⟨#[]⟩ : ByteArray) ++ two) (by omega) W13 T13).mono ?_; rintro e W14 ⟨rfl, C14⟩
  have P14 := P13.below C14
  have Q14 := Q13.below C14
  have R14 := R13.below C14
  have T14 := T13.below C14
  have B14 := B13.trans (C14.mono hz13)
  have hz14 := B14.size
  clear P13 Q13 R13 T13 B13 C14
  have hs3' : (((⟨#[]⟩ : ByteArray) ++ two).size : Int) = (((⟨#[]⟩ : ByteArray)).size : Int) + (two.size : Int) := by rw [hs3.out]; omega
  have hs2' : ((x ++ two).size : Int) = (x.size : Int) + (two.size : Int) := by rw [hs2.out]; omega
  go_wp2_with fail
  refine (lenT W14 b1 _ P14).mono ?_; rintro e _ ⟨rfl, rfl⟩
  go_wp2_with fail
  refine (lenT W14 b2 _ Q14).mono ?_; rintro e _ ⟨rfl, rfl⟩
  go_wp2_with fail
  refine (lenT W14 b3 _ R14).mono ?_; rintro e _ ⟨rfl, rfl⟩
  go_wp2_with fail
  refine (sumT W14 T14 b2 _ Q14 (by omega)).mono ?_; rintro e W15 ⟨rfl, C15⟩
  have B15 := B14.trans (C15.mono hz14)
  clear P14 Q14 R14 T14 B14 C15
  go_wp2
  go_ret
  exact ⟨by simp, B15⟩
theorem shaParts_walk (x one two : ByteArray) (forget : Bool) (w : World) (hx : x.size ≤ 140737488351232) (h1 : one.size ≤ 140737488351232) (h2 : two.size ≤ 140737488351232)
    (h3 : ∀ i : Nat, i < 8 → w.cell? ⟨1, i, none⟩ = some (.int .u32 (Ints I0.list i))) (h4 : ∀ i : Nat, i < 64 → w.cell? ⟨3, i, none⟩ = some (.int .u32 (Ints K0 i))) :
    Calls Tryd.prog 6 #[.string x, .string one, .string two, .bool forget] w fun e w' => e = .returned (.bool true) ∧ Below w.heap.size w w' := by
  cases forget
  · exact parts_no x one two w hx h1 h2 (tab_of h3 h4)
  · exact parts_yes x one two w hx h1 h2 (tab_of h3 h4)
end Go.Proofs.YtkhcinnpfpkhnaaDoor.ShaLaws
