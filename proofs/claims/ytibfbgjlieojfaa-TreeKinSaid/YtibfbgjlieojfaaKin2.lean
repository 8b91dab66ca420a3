/- TreeKin: its walk, of the lowest and the highest level. -/
import Derived.Test.YtibfbgjlieojfaaKin
import Derived.KernelRfl
set_option linter.unusedVariables false
set_option linter.unusedSimpArgs false
namespace Go.Proofs.Ytibfbgjlieojfaa.Kin
open Go.RowKit Go.Proofs.Ytibfbgjlieojfaa.PTreeKin Go.Proofs.YtibfbgjlieojfaaW.PrintWords Go.Proofs.YtibfbgjlieojfaaW.PrintLast Go.Proofs.YtibfbgjlieojfaaW.PrintMore Go.Proofs.Ytibfbgjlieojfaa.Base Go.Proofs.Ytibfbgjlieojfaa.Mem
set_option maxRecDepth 100000 in
set_option maxHeartbeats 16000000 in
theorem kin_zero_in (P j : Nat) (hP : P = 0) (h : ok P j) (w : World) : Calls Try.prog 5 #[.agg #[.int .i64 ((P : Int)), .int .i64 ((j : Int))]] w fun e w' => e = .returned (.bool true) ∧ Below w.heap.size w w' := by
  have HS := Lib.hid (fun W => tree_Span.calls _ _ _ _ _ W (span_f h))
  have HV := Lib.hid (fun W => annalslaw5_valid.calls (P : Int) (j : Int) true W (by rw [lvalid_f, vb_nat h]))
  have HW := Lib.hid (fun W => tree_Valid.calls (P : Int) (j : Int) true W (by rw [valid_f, vb_nat h]))
  have hz : tree_Left.f (P : Int) (j : Int) = some (0, 0, 50) ∧ tree_Right.f (P : Int) (j : Int) = some (0, 0, 50) := by
    subst hP; exact zero_f h
  have HL := Lib.hid (fun W => tree_Left.calls _ _ _ _ _ W hz.1)
  have HR := Lib.hid (fun W => tree_Right.calls _ _ _ _ _ W hz.2)
  clear hz
  have HP := Lib.hid (fun W => tree_Parent.calls _ _ _ _ _ W (parent_f h (by omega)))
  have HSI := Lib.hid (fun W => tree_Sibling.calls _ _ _ _ _ W (sibling_f h (by omega)))
  obtain ⟨x1, x2, _, _⟩ := xor_facts j
  have hj := ok_lt h
  have hQe : 2 ^ P = 1 := by rw [hP]
  have hLO : j * 2 ^ P = j := by rw [hQe, Nat.mul_one]
  have hHI : (j + 1) * 2 ^ P = j + 1 := by rw [hQe, Nat.mul_one]
  have hpow : (2 : Int) ^ P = ((2 ^ P : Nat) : Int) := by rw [Int.natCast_pow]; rfl
  generalize 2 ^ P = Q at *
  generalize j * Q = LO at *
  generalize (j + 1) * Q = HI at *
  generalize hPPe : P + 1 = PP at *
  generalize j ^^^ 1 = JX at *
  have hJU : (j : Int).tdiv 2 = ((j / 2 : Nat) : Int) := rfl
  have hJV : (JX : Int).tdiv 2 = ((j / 2 : Nat) : Int) := by rw [← x1]; rfl
  generalize j / 2 = JU at *
  have hp1 : (P : Int) < 62 := by omega
  have hp0 : ((P : Int) == 0) = true := by rw [beq_iff_eq]; omega
  have hxx : ((JX : Int) == (j : Int)) = false := by rw [beq_eq_false_iff_ne]; omega
  have HLJ : Hid (((LO : Int) == (j : Int)) = true) := Lib.hid (by rw [beq_iff_eq]; omega)
  have htm : (LO : Int).tmod (Q : Int) = 0 := by rw [hQe]; simp
  have hw1 : IntKind.i64.wrap ((HI : Int) - (LO : Int)) = (Q : Int) := by rw [IntWalk.i64_in _ (by omega)]; omega
  have hw2 : IntKind.u64.wrap (P : Int) = (P : Int) := u64_in (by omega) (by omega)
  have hw5 : IntKind.i64.wrap ((P : Int) + 1) = (PP : Int) := by rw [IntWalk.i64_in _ (by omega)]; omega
  have hw6 : IntKind.i64.wrap (Q : Int) = (Q : Int) := IntWalk.i64_in _ (by omega)
  have hQn : ((Q : Int) == 0) = false := by rw [beq_eq_false_iff_ne]; omega
  have hQz : ¬ (Q : Int) = 0 := by omega
  have hQN : ¬ Q = 0 := by omega
  have hQNb : (Q == 0) = false := by rw [beq_eq_false_iff_ne]; omega
  have hmdn : LO % Q = 0 := by
    have h : (LO : Int).tmod (Q : Int) = ((LO % Q : Nat) : Int) := rfl
    omega
  have hmdi : (LO : Int) % (Q : Int) = 0 := by rw [← Int.natCast_emod, hmdn]; rfl
  have hP64 : (P : Int) ≤ 64 := by omega
  have hP0 : (0 : Int) ≤ (P : Int) := by omega
  have hl1 : (LO : Int) ≤ 4611686018427387904 := by omega
  have hl2 : (HI : Int) ≤ 4611686018427387904 := by omega
  have hl3 : (LO : Int) ≤ (HI : Int) := by omega
  have hl4 : (Q : Int) ≤ 4611686018427387904 := by omega
  clear h x1 x2 hQe hLO hHI hPPe hP
  have HRW := Lib.hid (Row.new w #[.int .i64 ((P : Int)), .int .i64 ((j : Int))] 24)
  have HB0 := Lib.hid ((Below.refl w.heap.size w).alloc (Nat.le_refl _) (.cells #[.int .i64 ((P : Int)), .int .i64 ((j : Int))] 24))
  have q0RAa : (w.alloc (.cells #[.int .i64 ((P : Int)), .int .i64 ((j : Int))] 24)).cell? ⟨w.heap.size, 0, none⟩ = some (.int .i64 ((P : Int))) := HRW.out.cell 0
  have q0RAb : (w.alloc (.cells #[.int .i64 ((P : Int)), .int .i64 ((j : Int))] 24)).cell? ⟨w.heap.size, 1, none⟩ = some (.int .i64 ((j : Int))) := HRW.out.cell 1
  go_enter Try.func5, Try.ntmps5
  go_wp2_with fail
  refine (HS.out _).mono ?_; rintro e w1 ⟨rfl, C1⟩
  have B1 := chain HB0.out C1
  have RA1 := (HRW.out).below C1 (HRW.out).lt
  have q1RAa : w1.cell? ⟨w.heap.size, 0, none⟩ = some (.int .i64 ((P : Int))) := RA1.cell 0
  have q1RAb : w1.cell? ⟨w.heap.size, 1, none⟩ = some (.int .i64 ((j : Int))) := RA1.cell 1
  clear q0RAa q0RAb
  go_wp2_with fail
  refine (HV.out _).mono ?_; rintro e w2 ⟨rfl, C2⟩
  have B2 := chain B1 C2
  have RA2 := (RA1).below C2 (RA1).lt
  have q2RAa : w2.cell? ⟨w.heap.size, 0, none⟩ = some (.int .i64 ((P : Int))) := RA2.cell 0
  have q2RAb : w2.cell? ⟨w.heap.size, 1, none⟩ = some (.int .i64 ((j : Int))) := RA2.cell 1
  clear q1RAa q1RAb
  go_wp2_with fail
  refine (HW.out _).mono ?_; rintro e w3 ⟨rfl, C3⟩
  have B3 := chain B2 C3
  have RA3 := (RA2).below C3 (RA2).lt
  have q3RAa : w3.cell? ⟨w.heap.size, 0, none⟩ = some (.int .i64 ((P : Int))) := RA3.cell 0
  have q3RAb : w3.cell? ⟨w.heap.size, 1, none⟩ = some (.int .i64 ((j : Int))) := RA3.cell 1
  clear q2RAa q2RAb
  go_wp2_with fail
  refine (num_calls (0) _).mono ?_; rintro e _ ⟨rfl, rfl⟩
  go_wp2_with fail
  refine (HL.out _).mono ?_; rintro e w4 ⟨rfl, C4⟩
  have B4 := chain B3 C4
  have RA4 := (RA3).below C4 (RA3).lt
  have D4 := B4.alloc B4.size (.cells #[.int .i64 (0), .int .i64 (0)] 24)
  have RA4' := RA4.alloc (.cells #[.int .i64 (0), .int .i64 (0)] 24)
  have RL4' := Row.new w4 #[.int .i64 (0), .int .i64 (0)] 24
  have q4RAa : (w4.alloc (.cells #[.int .i64 (0), .int .i64 (0)] 24)).cell? ⟨w.heap.size, 0, none⟩ = some (.int .i64 ((P : Int))) := RA4'.cell 0
  have q4RAb : (w4.alloc (.cells #[.int .i64 (0), .int .i64 (0)] 24)).cell? ⟨w.heap.size, 1, none⟩ = some (.int .i64 ((j : Int))) := RA4'.cell 1
  have q4RLa : (w4.alloc (.cells #[.int .i64 (0), .int .i64 (0)] 24)).cell? ⟨w4.heap.size, 0, none⟩ = some (.int .i64 (0)) := RL4'.cell 0
  have q4RLb : (w4.alloc (.cells #[.int .i64 (0), .int .i64 (0)] 24)).cell? ⟨w4.heap.size, 1, none⟩ = some (.int .i64 (0)) := RL4'.cell 1
  clear q3RAa q3RAb
  go_wp2_with fail
  refine (HR.out _).mono ?_; rintro e w5 ⟨rfl, C5⟩
  have B5 := chain D4 C5
  have RA5 := (RA4').below C5 (RA4').lt
  have RL5 := (RL4').below C5 (RL4').lt
  have D5 := B5.alloc B5.size (.cells #[.int .i64 (0), .int .i64 (0)] 24)
  have RA5' := RA5.alloc (.cells #[.int .i64 (0), .int .i64 (0)] 24)
  have RL5' := RL5.alloc (.cells #[.int .i64 (0), .int .i64 (0)] 24)
  have RR5' := Row.new w5 #[.int .i64 (0), .int .i64 (0)] 24
  have q5RAa : (w5.alloc (.cells #[.int .i64 (0), .int .i64 (0)] 24)).cell? ⟨w.heap.size, 0, none⟩ = some (.int .i64 ((P : Int))) := RA5'.cell 0
  have q5RAb : (w5.alloc (.cells #[.int .i64 (0), .int .i64 (0)] 24)).cell? ⟨w.heap.size, 1, none⟩ = some (.int .i64 ((j : Int))) := RA5'.cell 1
  have q5RLa : (w5.alloc (.cells #[.int .i64 (0), .int .i64 (0)] 24)).cell? ⟨w4.heap.size, 0, none⟩ = some (.int .i64 (0)) := RL5'.cell 0
  have q5RLb : (w5.alloc (.cells #[.int .i64 (0), .int .i64 (0)] 24)).cell? ⟨w4.heap.size, 1, none⟩ = some (.int .i64 (0)) := RL5'.cell 1
  have q5RRa : (w5.alloc (.cells #[.int .i64 (0), .int .i64 (0)] 24)).cell? ⟨w5.heap.size, 0, none⟩ = some (.int .i64 (0)) := RR5'.cell 0
  have q5RRb : (w5.alloc (.cells #[.int .i64 (0), .int .i64 (0)] 24)).cell? ⟨w5.heap.size, 1, none⟩ = some (.int .i64 (0)) := RR5'.cell 1
  clear q4RAa q4RAb q4RLa q4RLb
  go_wp2_with fail
  refine (HP.out _).mono ?_; rintro e w6 ⟨rfl, C6⟩
  have B6 := chain D5 C6
  have RA6 := (RA5').below C6 (RA5').lt
  have RL6 := (RL5').below C6 (RL5').lt
  have RR6 := (RR5').below C6 (RR5').lt
  have D6 := B6.alloc B6.size (.cells #[.int .i64 ((PP : Int)), .int .i64 ((JU : Int))] 24)
  have RA6' := RA6.alloc (.cells #[.int .i64 ((PP : Int)), .int .i64 ((JU : Int))] 24)
  have RL6' := RL6.alloc (.cells #[.int .i64 ((PP : Int)), .int .i64 ((JU : Int))] 24)
  have RR6' := RR6.alloc (.cells #[.int .i64 ((PP : Int)), .int .i64 ((JU : Int))] 24)
  have RP6' := Row.new w6 #[.int .i64 ((PP : Int)), .int .i64 ((JU : Int))] 24
  have q6RAa : (w6.alloc (.cells #[.int .i64 ((PP : Int)), .int .i64 ((JU : Int))] 24)).cell? ⟨w.heap.size, 0, none⟩ = some (.int .i64 ((P : Int))) := RA6'.cell 0
  have q6RAb : (w6.alloc (.cells #[.int .i64 ((PP : Int)), .int .i64 ((JU : Int))] 24)).cell? ⟨w.heap.size, 1, none⟩ = some (.int .i64 ((j : Int))) := RA6'.cell 1
  have q6RLa : (w6.alloc (.cells #[.int .i64 ((PP : Int)), .int .i64 ((JU : Int))] 24)).cell? ⟨w4.heap.size, 0, none⟩ = some (.int .i64 (0)) := RL6'.cell 0
  have q6RLb : (w6.alloc (.cells #[.int .i64 ((PP : Int)), .int .i64 ((JU : Int))] 24)).cell? ⟨w4.heap.size, 1, none⟩ = some (.int .i64 (0)) := RL6'.cell 1
  have q6RRa : (w6.alloc (.cells #[.int .i64 ((PP : Int)), .int .i64 ((JU : Int))] 24)).cell? ⟨w5.heap.size, 0, none⟩ = some (.int .i64 (0)) := RR6'.cell 0
  have q6RRb : (w6.alloc (.cells #[.int .i64 ((PP : Int)), .int .i64 ((JU : Int))] 24)).cell? ⟨w5.heap.size, 1, none⟩ = some (.int .i64 (0)) := RR6'.cell 1
  have q6RPa : (w6.alloc (.cells #[.int .i64 ((PP : Int)), .int .i64 ((JU : Int))] 24)).cell? ⟨w6.heap.size, 0, none⟩ = some (.int .i64 ((PP : Int))) := RP6'.cell 0
  have q6RPb : (w6.alloc (.cells #[.int .i64 ((PP : Int)), .int .i64 ((JU : Int))] 24)).cell? ⟨w6.heap.size, 1, none⟩ = some (.int .i64 ((JU : Int))) := RP6'.cell 1
  clear q5RAa q5RAb q5RLa q5RLb q5RRa q5RRb
  go_wp2_with fail
  refine (HSI.out _).mono ?_; rintro e w7 ⟨rfl, C7⟩
  have B7 := chain D6 C7
  have RA7 := (RA6').below C7 (RA6').lt
  have RL7 := (RL6').below C7 (RL6').lt
  have RR7 := (RR6').below C7 (RR6').lt
  have RP7 := (RP6').below C7 (RP6').lt
  have D7 := B7.alloc B7.size (.cells #[.int .i64 ((P : Int)), .int .i64 ((JX : Int))] 24)
  have RA7' := RA7.alloc (.cells #[.int .i64 ((P : Int)), .int .i64 ((JX : Int))] 24)
  have RL7' := RL7.alloc (.cells #[.int .i64 ((P : Int)), .int .i64 ((JX : Int))] 24)
  have RR7' := RR7.alloc (.cells #[.int .i64 ((P : Int)), .int .i64 ((JX : Int))] 24)
  have RP7' := RP7.alloc (.cells #[.int .i64 ((P : Int)), .int .i64 ((JX : Int))] 24)
  have RS7' := Row.new w7 #[.int .i64 ((P : Int)), .int .i64 ((JX : Int))] 24
  have q7RAa : (w7.alloc (.cells #[.int .i64 ((P : Int)), .int .i64 ((JX : Int))] 24)).cell? ⟨w.heap.size, 0, none⟩ = some (.int .i64 ((P : Int))) := RA7'.cell 0
  have q7RAb : (w7.alloc (.cells #[.int .i64 ((P : Int)), .int .i64 ((JX : Int))] 24)).cell? ⟨w.heap.size, 1, none⟩ = some (.int .i64 ((j : Int))) := RA7'.cell 1
  have q7RLa : (w7.alloc (.cells #[.int .i64 ((P : Int)), .int .i64 ((JX : Int))] 24)).cell? ⟨w4.heap.size, 0, none⟩ = some (.int .i64 (0)) := RL7'.cell 0
  have q7RLb : (w7.alloc (.cells #[.int .i64 ((P : Int)), .int .i64 ((JX : Int))] 24)).cell? ⟨w4.heap.size, 1, none⟩ = some (.int .i64 (0)) := RL7'.cell 1
  have q7RRa : (w7.alloc (.cells #[.int .i64 ((P : Int)), .int .i64 ((JX : Int))] 24)).cell? ⟨w5.heap.size, 0, none⟩ = some (.int .i64 (0)) := RR7'.cell 0
  have q7RRb : (w7.alloc (.cells #[.int .i64 ((P : Int)), .int .i64 ((JX : Int))] 24)).cell? ⟨w5.heap.size, 1, none⟩ = some (.int .i64 (0)) := RR7'.cell 1
  have q7RPa : (w7.alloc (.cells #[.int .i64 ((P : Int)), .int .i64 ((JX : Int))] 24)).cell? ⟨w6.heap.size, 0, none⟩ = some (.int .i64 ((PP : Int))) := RP7'.cell 0
  have q7RPb : (w7.alloc (.cells #[.int .i64 ((P : Int)), .int .i64 ((JX : Int))] 24)).cell? ⟨w6.heap.size, 1, none⟩ = some (.int .i64 ((JU : Int))) := RP7'.cell 1
  have q7RSa : (w7.alloc (.cells #[.int .i64 ((P : Int)), .int .i64 ((JX : Int))] 24)).cell? ⟨w7.heap.size, 0, none⟩ = some (.int .i64 ((P : Int))) := RS7'.cell 0
  have q7RSb : (w7.alloc (.cells #[.int .i64 ((P : Int)), .int .i64 ((JX : Int))] 24)).cell? ⟨w7.heap.size, 1, none⟩ = some (.int .i64 ((JX : Int))) := RS7'.cell 1
  clear q6RAa q6RAb q6RLa q6RLb q6RRa q6RRb q6RPa q6RPb
  go_wp2_with fail
  go_region_held3 (fun w' => w'.cell? ⟨w.heap.size, 0, none⟩ = some (.int .i64 ((P : Int)))) (first | assumption | exact q7RAa)
    (first | (go_at_call 12; (with_reducible refine (num_calls (0) _).mono ?_); rintro e _ ⟨rfl, rfl⟩))
  have RA107 := (RA7').drew
  have RL107 := (RL7').drew
  have RR107 := (RR7').drew
  have RP107 := (RP7').drew
  have RS107 := (RS7').drew
  have B107 := (D7).drew
  have q107RAa : ((w7.alloc (.cells #[.int .i64 ((P : Int)), .int .i64 ((JX : Int))] 24))).drew.cell? ⟨w.heap.size, 0, none⟩ = some (.int .i64 ((P : Int))) := RA107.cell 0
  have q107RAb : ((w7.alloc (.cells #[.int .i64 ((P : Int)), .int .i64 ((JX : Int))] 24))).drew.cell? ⟨w.heap.size, 1, none⟩ = some (.int .i64 ((j : Int))) := RA107.cell 1
  have q107RLa : ((w7.alloc (.cells #[.int .i64 ((P : Int)), .int .i64 ((JX : Int))] 24))).drew.cell? ⟨w4.heap.size, 0, none⟩ = some (.int .i64 (0)) := RL107.cell 0
  have q107RLb : ((w7.alloc (.cells #[.int .i64 ((P : Int)), .int .i64 ((JX : Int))] 24))).drew.cell? ⟨w4.heap.size, 1, none⟩ = some (.int .i64 (0)) := RL107.cell 1
  have q107RRa : ((w7.alloc (.cells #[.int .i64 ((P : Int)), .int .i64 ((JX : Int))] 24))).drew.cell? ⟨w5.heap.size, 0, none⟩ = some (.int .i64 (0)) := RR107.cell 0
  have q107RRb : ((w7.alloc (.cells #[.int .i64 ((P : Int)), .int .i64 ((JX : Int))] 24))).drew.cell? ⟨w5.heap.size, 1, none⟩ = some (.int .i64 (0)) := RR107.cell 1
  have q107RPa : ((w7.alloc (.cells #[.int .i64 ((P : Int)), .int .i64 ((JX : Int))] 24))).drew.cell? ⟨w6.heap.size, 0, none⟩ = some (.int .i64 ((PP : Int))) := RP107.cell 0
  have q107RPb : ((w7.alloc (.cells #[.int .i64 ((P : Int)), .int .i64 ((JX : Int))] 24))).drew.cell? ⟨w6.heap.size, 1, none⟩ = some (.int .i64 ((JU : Int))) := RP107.cell 1
  have q107RSa : ((w7.alloc (.cells #[.int .i64 ((P : Int)), .int .i64 ((JX : Int))] 24))).drew.cell? ⟨w7.heap.size, 0, none⟩ = some (.int .i64 ((P : Int))) := RS107.cell 0
  have q107RSb : ((w7.alloc (.cells #[.int .i64 ((P : Int)), .int .i64 ((JX : Int))] 24))).drew.cell? ⟨w7.heap.size, 1, none⟩ = some (.int .i64 ((JX : Int))) := RS107.cell 1
  clear q7RAa q7RAb q7RLa q7RLb q7RRa q7RRb q7RPa q7RPb q7RSa q7RSb
  have hlj := HLJ.out
  go_wp2_with fail
  refine (num_calls (50) _).mono ?_; rintro e _ ⟨rfl, rfl⟩
  go_wp2_with fail
  refine (num_calls (50) _).mono ?_; rintro e _ ⟨rfl, rfl⟩
  go_wp2
  go_ret
  exact ⟨by simp, B107⟩
end Go.Proofs.Ytibfbgjlieojfaa.Kin
