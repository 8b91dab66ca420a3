/- TreeKin: its walk. -/
import Derived.Test.YtibfbgjlieojfaaKinP
import Derived.Test.YtibfbgjlieojfaaMem
import Derived.Deep.QuietTactic
import Derived.BigQuiet
import Derived.Lib.Hide
import Derived.WalkKit
import Derived.Deep.RegionHeld3
set_option linter.unusedVariables false
set_option linter.unusedSimpArgs false
namespace Go.Proofs.Ytibfbgjlieojfaa.Kin
open Go.RowKit Go.Proofs.Ytibfbgjlieojfaa.PTreeKin Go.Proofs.YtibfbgjlieojfaaW.PrintWords Go.Proofs.YtibfbgjlieojfaaW.PrintLast Go.Proofs.YtibfbgjlieojfaaW.PrintMore Go.Proofs.Ytibfbgjlieojfaa.Base Go.Proofs.Ytibfbgjlieojfaa.Mem

theorem chain {w W W' : World} (B : Below w.heap.size w W) (C : Below W.heap.size W W') : Below w.heap.size w W' := B.trans (C.mono B.size)
theorem num_calls (a : Int) (w : World) : Calls Try.prog 12 #[.int .i64 a] w fun e w' => e = .returned (.int .i64 a) ∧ w' = w := by
  go_enter Try.func12, Try.ntmps12
  go_wp2
  go_ret
  simp
set_option maxRecDepth 100000 in
set_option maxHeartbeats 4000000 in
theorem kin_bad_in (l i : Int) (w : World) (hv : vb l i = false) : Calls Try.prog 5 #[.agg #[.int .i64 l, .int .i64 i]] w fun e w' => e = .returned (.bool true) ∧ Below w.heap.size w w' := by
  obtain ⟨f1, f2, f3, f4, f5⟩ := bad hv
  have HS := Lib.hid (fun W => tree_Span.calls l i 0 0 50 W f1)
  have HV := Lib.hid (fun W => annalslaw5_valid.calls l i false W (by rw [lvalid_f, hv]))
  have HW := Lib.hid (fun W => tree_Valid.calls l i false W (by rw [valid_f, hv]))
  have HL := Lib.hid (fun W => tree_Left.calls l i 0 0 50 W f2)
  have HR := Lib.hid (fun W => tree_Right.calls l i 0 0 50 W f3)
  have HP := Lib.hid (fun W => tree_Parent.calls l i 0 0 50 W f4)
  have HSI := Lib.hid (fun W => tree_Sibling.calls l i 0 0 50 W f5)
  clear f1 f2 f3 f4 f5 hv
  have HRW := Lib.hid (Row.new w #[.int .i64 (l), .int .i64 (i)] 24)
  have HB0 := Lib.hid ((Below.refl w.heap.size w).alloc (Nat.le_refl _) (.cells #[.int .i64 (l), .int .i64 (i)] 24))
  have q0RAa : (w.alloc (.cells #[.int .i64 (l), .int .i64 (i)] 24)).cell? ⟨w.heap.size, 0, none⟩ = some (.int .i64 (l)) := HRW.out.cell 0
  have q0RAb : (w.alloc (.cells #[.int .i64 (l), .int .i64 (i)] 24)).cell? ⟨w.heap.size, 1, none⟩ = some (.int .i64 (i)) := HRW.out.cell 1
  go_enter Try.func5, Try.ntmps5
  go_wp2_with fail
  refine (HS.out _).mono ?_; rintro e w1 ⟨rfl, C1⟩
  have B1 := chain HB0.out C1
  have RA1 := (HRW.out).below C1 (HRW.out).lt
  have q1RAa : w1.cell? ⟨w.heap.size, 0, none⟩ = some (.int .i64 (l)) := RA1.cell 0
  have q1RAb : w1.cell? ⟨w.heap.size, 1, none⟩ = some (.int .i64 (i)) := RA1.cell 1
  clear q0RAa q0RAb
  go_wp2_with fail
  refine (HV.out _).mono ?_; rintro e w2 ⟨rfl, C2⟩
  have B2 := chain B1 C2
  have RA2 := (RA1).below C2 (RA1).lt
  have q2RAa : w2.cell? ⟨w.heap.size, 0, none⟩ = some (.int .i64 (l)) := RA2.cell 0
  have q2RAb : w2.cell? ⟨w.heap.size, 1, none⟩ = some (.int .i64 (i)) := RA2.cell 1
  clear q1RAa q1RAb
  go_wp2_with fail
  refine (HW.out _).mono ?_; rintro e w3 ⟨rfl, C3⟩
  have B3 := chain B2 C3
  have RA3 := (RA2).below C3 (RA2).lt
  have q3RAa : w3.cell? ⟨w.heap.size, 0, none⟩ = some (.int .i64 (l)) := RA3.cell 0
  have q3RAb : w3.cell? ⟨w.heap.size, 1, none⟩ = some (.int .i64 (i)) := RA3.cell 1
  clear q2RAa q2RAb
  go_wp2_with fail
  refine (num_calls (50) _).mono ?_; rintro e _ ⟨rfl, rfl⟩
  go_wp2_with fail
  refine (HL.out _).mono ?_; rintro e w4 ⟨rfl, C4⟩
  have B4 := chain B3 C4
  have RA4 := (RA3).below C4 (RA3).lt
  have D4 := B4.alloc B4.size (.cells #[.int .i64 (0), .int .i64 (0)] 24)
  have RA4' := RA4.alloc (.cells #[.int .i64 (0), .int .i64 (0)] 24)
  have RL4' := Row.new w4 #[.int .i64 (0), .int .i64 (0)] 24
  have q4RAa : (w4.alloc (.cells #[.int .i64 (0), .int .i64 (0)] 24)).cell? ⟨w.heap.size, 0, none⟩ = some (.int .i64 (l)) := RA4'.cell 0
  have q4RAb : (w4.alloc (.cells #[.int .i64 (0), .int .i64 (0)] 24)).cell? ⟨w.heap.size, 1, none⟩ = some (.int .i64 (i)) := RA4'.cell 1
  have q4RLa : (w4.alloc (.cells #[.int .i64 (0), .int .i64 (0)] 24)).cell? ⟨w4.heap.size, 0, none⟩ = some (.int .i64 (0)) := RL4'.cell 0
  have q4RLb : (w4.alloc (.cells #[.int .i64 (0), .int .i64 (0)] 24)).cell? ⟨w4.heap.size, 1, none⟩ = some (.int .i64 (0)) := RL4'.cell 1
  clear q3RAa q3RAb
  go_wp2_with fail
  refine (HR.out _).mono ?_; rintro e w5 ⟨rfl, C5⟩
  have B5 := chain D4 C5
  have RA5 := (RA4').below C5 (RA4').lt
  have RL5 := (RL4').below C5 (RL4').lt
  have D5 := B5.alloc B5.size (.cells #[.int .i64 (0), .int .i64 (0)] 24)
  have RA5' := RA5.alloc (.cells #[.int .i64 (0), .int .i64 (0)] 24)
  have RL5' := RL5.alloc (.cells #[.int .i64 (0), .int .i64 (0)] 24)
  have RR5' := Row.new w5 #[.int .i64 (0), .int .i64 (0)] 24
  have q5RAa : (w5.alloc (.cells #[.int .i64 (0), .int .i64 (0)] 24)).cell? ⟨w.heap.size, 0, none⟩ = some (.int .i64 (l)) := RA5'.cell 0
  have q5RAb : (w5.alloc (.cells #[.int .i64 (0), .int .i64 (0)] 24)).cell? ⟨w.heap.size, 1, none⟩ = some (.int .i64 (i)) := RA5'.cell 1
  have q5RLa : (w5.alloc (.cells #[.int .i64 (0), .int .i64 (0)] 24)).cell? ⟨w4.heap.size, 0, none⟩ = some (.int .i64 (0)) := RL5'.cell 0
  have q5RLb : (w5.alloc (.cells #[.int .i64 (0), .int .i64 (0)] 24)).cell? ⟨w4.heap.size, 1, none⟩ = some (.int .i64 (0)) := RL5'.cell 1
  have q5RRa : (w5.alloc (.cells #[.int .i64 (0), .int .i64 (0)] 24)).cell? ⟨w5.heap.size, 0, none⟩ = some (.int .i64 (0)) := RR5'.cell 0
  have q5RRb : (w5.alloc (.cells #[.int .i64 (0), .int .i64 (0)] 24)).cell? ⟨w5.heap.size, 1, none⟩ = some (.int .i64 (0)) := RR5'.cell 1
  clear q4RAa q4RAb q4RLa q4RLb
  go_wp2_with fail
  refine (HP.out _).mono ?_; rintro e w6 ⟨rfl, C6⟩
  have B6 := chain D5 C6
  have RA6 := (RA5').below C6 (RA5').lt
  have RL6 := (RL5').below C6 (RL5').lt
  have RR6 := (RR5').below C6 (RR5').lt
  have D6 := B6.alloc B6.size (.cells #[.int .i64 (0), .int .i64 (0)] 24)
  have RA6' := RA6.alloc (.cells #[.int .i64 (0), .int .i64 (0)] 24)
  have RL6' := RL6.alloc (.cells #[.int .i64 (0), .int .i64 (0)] 24)
  have RR6' := RR6.alloc (.cells #[.int .i64 (0), .int .i64 (0)] 24)
  have RP6' := Row.new w6 #[.int .i64 (0), .int .i64 (0)] 24
  have q6RAa : (w6.alloc (.cells #[.int .i64 (0), .int .i64 (0)] 24)).cell? ⟨w.heap.size, 0, none⟩ = some (.int .i64 (l)) := RA6'.cell 0
  have q6RAb : (w6.alloc (.cells #[.int .i64 (0), .int .i64 (0)] 24)).cell? ⟨w.heap.size, 1, none⟩ = some (.int .i64 (i)) := RA6'.cell 1
  have q6RLa : (w6.alloc (.cells #[.int .i64 (0), .int .i64 (0)] 24)).cell? ⟨w4.heap.size, 0, none⟩ = some (.int .i64 (0)) := RL6'.cell 0
  have q6RLb : (w6.alloc (.cells #[.int .i64 (0), .int .i64 (0)] 24)).cell? ⟨w4.heap.size, 1, none⟩ = some (.int .i64 (0)) := RL6'.cell 1
  have q6RRa : (w6.alloc (.cells #[.int .i64 (0), .int .i64 (0)] 24)).cell? ⟨w5.heap.size, 0, none⟩ = some (.int .i64 (0)) := RR6'.cell 0
  have q6RRb : (w6.alloc (.cells #[.int .i64 (0), .int .i64 (0)] 24)).cell? ⟨w5.heap.size, 1, none⟩ = some (.int .i64 (0)) := RR6'.cell 1
  have q6RPa : (w6.alloc (.cells #[.int .i64 (0), .int .i64 (0)] 24)).cell? ⟨w6.heap.size, 0, none⟩ = some (.int .i64 (0)) := RP6'.cell 0
  have q6RPb : (w6.alloc (.cells #[.int .i64 (0), .int .i64 (0)] 24)).cell? ⟨w6.heap.size, 1, none⟩ = some (.int .i64 (0)) := RP6'.cell 1
  clear q5RAa q5RAb q5RLa q5RLb q5RRa q5RRb
  go_wp2_with fail
  refine (HSI.out _).mono ?_; rintro e w7 ⟨rfl, C7⟩
  have B7 := chain D6 C7
  have RA7 := (RA6').below C7 (RA6').lt
  have RL7 := (RL6').below C7 (RL6').lt
  have RR7 := (RR6').below C7 (RR6').lt
  have RP7 := (RP6').below C7 (RP6').lt
  have D7 := B7.alloc B7.size (.cells #[.int .i64 (0), .int .i64 (0)] 24)
  have RA7' := RA7.alloc (.cells #[.int .i64 (0), .int .i64 (0)] 24)
  have RL7' := RL7.alloc (.cells #[.int .i64 (0), .int .i64 (0)] 24)
  have RR7' := RR7.alloc (.cells #[.int .i64 (0), .int .i64 (0)] 24)
  have RP7' := RP7.alloc (.cells #[.int .i64 (0), .int .i64 (0)] 24)
  have RS7' := Row.new w7 #[.int .i64 (0), .int .i64 (0)] 24
  have q7RAa : (w7.alloc (.cells #[.int .i64 (0), .int .i64 (0)] 24)).cell? ⟨w.heap.size, 0, none⟩ = some (.int .i64 (l)) := RA7'.cell 0
  have q7RAb : (w7.alloc (.cells #[.int .i64 (0), .int .i64 (0)] 24)).cell? ⟨w.heap.size, 1, none⟩ = some (.int .i64 (i)) := RA7'.cell 1
  have q7RLa : (w7.alloc (.cells #[.int .i64 (0), .int .i64 (0)] 24)).cell? ⟨w4.heap.size, 0, none⟩ = some (.int .i64 (0)) := RL7'.cell 0
  have q7RLb : (w7.alloc (.cells #[.int .i64 (0), .int .i64 (0)] 24)).cell? ⟨w4.heap.size, 1, none⟩ = some (.int .i64 (0)) := RL7'.cell 1
  have q7RRa : (w7.alloc (.cells #[.int .i64 (0), .int .i64 (0)] 24)).cell? ⟨w5.heap.size, 0, none⟩ = some (.int .i64 (0)) := RR7'.cell 0
  have q7RRb : (w7.alloc (.cells #[.int .i64 (0), .int .i64 (0)] 24)).cell? ⟨w5.heap.size, 1, none⟩ = some (.int .i64 (0)) := RR7'.cell 1
  have q7RPa : (w7.alloc (.cells #[.int .i64 (0), .int .i64 (0)] 24)).cell? ⟨w6.heap.size, 0, none⟩ = some (.int .i64 (0)) := RP7'.cell 0
  have q7RPb : (w7.alloc (.cells #[.int .i64 (0), .int .i64 (0)] 24)).cell? ⟨w6.heap.size, 1, none⟩ = some (.int .i64 (0)) := RP7'.cell 1
  have q7RSa : (w7.alloc (.cells #[.int .i64 (0), .int .i64 (0)] 24)).cell? ⟨w7.heap.size, 0, none⟩ = some (.int .i64 (0)) := RS7'.cell 0
  have q7RSb : (w7.alloc (.cells #[.int .i64 (0), .int .i64 (0)] 24)).cell? ⟨w7.heap.size, 1, none⟩ = some (.int .i64 (0)) := RS7'.cell 1
  clear q6RAa q6RAb q6RLa q6RLb q6RRa q6RRb q6RPa q6RPb
  go_wp2_with fail
  refine (num_calls (50) _).mono ?_; rintro e _ ⟨rfl, rfl⟩
  go_wp2_with fail
  refine (num_calls (50) _).mono ?_; rintro e _ ⟨rfl, rfl⟩
  go_wp2_with fail
  refine (num_calls (50) _).mono ?_; rintro e _ ⟨rfl, rfl⟩
  go_wp2_with fail
  refine (num_calls (50) _).mono ?_; rintro e _ ⟨rfl, rfl⟩
  go_wp2_with fail
  refine (num_calls (50) _).mono ?_; rintro e _ ⟨rfl, rfl⟩
  go_wp2
  go_ret
  exact ⟨by simp, D7⟩
set_option maxRecDepth 100000 in
set_option maxHeartbeats 16000000 in
theorem kin_mid_in (p j : Nat) (h : ok (p + 1) j) (hp : p + 1 < 62) (w : World) : Calls Try.prog 5 #[.agg #[.int .i64 (((p + 1 : Nat) : Int)), .int .i64 ((j : Int))]] w fun e w' => e = .returned (.bool true) ∧ Below w.heap.size w w' := by
  have HS := Lib.hid (fun W => tree_Span.calls _ _ _ _ _ W (span_f h))
  have HV := Lib.hid (fun W => annalslaw5_valid.calls ((p + 1 : Nat) : Int) (j : Int) true W (by rw [lvalid_f, vb_nat h]))
  have HW := Lib.hid (fun W => tree_Valid.calls ((p + 1 : Nat) : Int) (j : Int) true W (by rw [valid_f, vb_nat h]))
  have HL := Lib.hid (fun W => tree_Left.calls _ _ _ _ _ W (left_f h))
  have HR := Lib.hid (fun W => tree_Right.calls _ _ _ _ _ W (right_f h))
  have HP := Lib.hid (fun W => tree_Parent.calls _ _ _ _ _ W (parent_f h hp))
  have HSI := Lib.hid (fun W => tree_Sibling.calls _ _ _ _ _ W (sibling_f h hp))
  obtain ⟨h0, h1⟩ := ok_left h
  have KS := Lib.hid (fun W => tree_Span.calls _ _ _ _ _ W (span_f h0))
  have KT := Lib.hid (fun W => tree_Span.calls _ _ _ _ _ W (span_f h1))
  have KP := Lib.hid (fun W => tree_Parent.calls _ _ _ _ _ W (parent_f h0 (by omega)))
  have KQ := Lib.hid (fun W => tree_Parent.calls _ _ _ _ _ W (parent_f h1 (by omega)))
  have KX := Lib.hid (fun W => tree_Sibling.calls _ _ _ _ _ W (sibling_f h0 (by omega)))
  have KY := Lib.hid (fun W => tree_Sibling.calls _ _ _ _ _ W (sibling_f h1 (by omega)))
  obtain ⟨x1, x2, _, _⟩ := xor_facts j
  obtain ⟨_, _, x3, x4⟩ := xor_facts j
  rw [x3] at KX
  rw [x4] at KY
  rw [show 2 * j / 2 = j by omega] at KP
  rw [show (2 * j + 1) / 2 = j by omega] at KQ
  have e0 : 2 * j * 2 ^ p = j * 2 ^ (p + 1) := by rw [pow_up, Nat.mul_comm 2 j, Nat.mul_assoc]
  have e1 : (2 * j + 1 + 1) * 2 ^ p = (j + 1) * 2 ^ (p + 1) := by rw [pow_up, ← Nat.mul_assoc]; congr 1; omega
  rw [e0] at KS
  rw [e1] at KT
  have hj := ok_lt h
  have hQ := pow_up p
  have hQ1 := Nat.two_pow_pos p
  have hQ2 : 2 ^ (p + 1) ≤ 4611686018427387904 := by
    rw [show 4611686018427387904 = 2 ^ 62 from rfl]; exact Nat.pow_le_pow_right (by decide) (by omega)
  have hmod : (j * 2 ^ (p + 1)) % 2 ^ (p + 1) = 0 := Nat.mul_mod_left _ _
  have hHI : (j + 1) * 2 ^ (p + 1) = j * 2 ^ (p + 1) + 2 ^ (p + 1) := by rw [Nat.add_mul, Nat.one_mul]
  have hMI : (2 * j + 1) * 2 ^ p = j * 2 ^ (p + 1) + 2 ^ p := by rw [Nat.add_mul, Nat.one_mul, e0]
  have hle := h.2
  have hpow : (2 : Int) ^ (p + 1) = ((2 ^ (p + 1) : Nat) : Int) := by rw [Int.natCast_pow]; rfl
  generalize hPe : p + 1 = P at *
  generalize 2 ^ P = Q at *
  generalize 2 ^ p = Q0 at *
  generalize j * Q = LO at *
  generalize (j + 1) * Q = HI at *
  generalize (2 * j + 1) * Q0 = MI at *
  generalize 2 * j + 1 = J1 at *
  generalize 2 * j = J0 at *
  generalize hPPe : P + 1 = PP at *
  generalize j ^^^ 1 = JX at *
  have hJU : (j : Int).tdiv 2 = ((j / 2 : Nat) : Int) := rfl
  have hJV : (JX : Int).tdiv 2 = ((j / 2 : Nat) : Int) := by rw [← x1]; rfl
  generalize j / 2 = JU at *
  have hp1 : (P : Int) < 62 := by omega
  have hp0 : ((P : Int) == 0) = false := by rw [beq_eq_false_iff_ne]; omega
  have hxx : ((JX : Int) == (j : Int)) = false := by rw [beq_eq_false_iff_ne]; omega
  have htm : (LO : Int).tmod (Q : Int) = 0 := by
    have : (LO : Int).tmod (Q : Int) = ((LO % Q : Nat) : Int) := rfl
    rw [this, hmod]; rfl
  clear h h0 h1 e0 e1 hmod x1 x2 x3 x4
  have hw1 : IntKind.i64.wrap ((HI : Int) - (LO : Int)) = (Q : Int) := by rw [IntWalk.i64_in _ (by omega)]; omega
  have hw2 : IntKind.u64.wrap (P : Int) = (P : Int) := u64_in (by omega) (by omega)
  have hw3 : IntKind.i64.wrap ((MI : Int) - (LO : Int)) = (Q0 : Int) := by rw [IntWalk.i64_in _ (by omega)]; omega
  have hw4 : IntKind.i64.wrap ((HI : Int) - (MI : Int)) = (Q0 : Int) := by rw [IntWalk.i64_in _ (by omega)]; omega
  have hw5 : IntKind.i64.wrap ((P : Int) + 1) = (PP : Int) := by rw [IntWalk.i64_in _ (by omega)]; omega
  have hw6 : IntKind.i64.wrap (Q : Int) = (Q : Int) := IntWalk.i64_in _ (by omega)
  have hQn : ((Q : Int) == 0) = false := by rw [beq_eq_false_iff_ne]; omega
  have hQz : ¬ (Q : Int) = 0 := by omega
  have hQN : ¬ Q = 0 := by omega
  have hQNb : (Q == 0) = false := by rw [beq_eq_false_iff_ne]; omega
  have hmdn : LO % Q = 0 := by
    have h : (LO : Int).tmod (Q : Int) = ((LO % Q : Nat) : Int) := rfl
    omega
  have hmdi : (LO : Int) % (Q : Int) = 0 := by rw [← Int.natCast_emod, hmdn]; rfl
  have hP64 : (P : Int) ≤ 64 := by omega
  have hP0 : (0 : Int) ≤ (P : Int) := by omega
  clear hHI hMI hQ hPe hPPe
  have HRW := Lib.hid (Row.new w #[.int .i64 ((P : Int)), .int .i64 ((j : Int))] 24)
  have HB0 := Lib.hid ((Below.refl w.heap.size w).alloc (Nat.le_refl _) (.cells #[.int .i64 ((P : Int)), .int .i64 ((j : Int))] 24))
  have q0RAa : (w.alloc (.cells #[.int .i64 ((P : Int)), .int .i64 ((j : Int))] 24)).cell? ⟨w.heap.size, 0, none⟩ = some (.int .i64 ((P : Int))) := HRW.out.cell 0
  have q0RAb : (w.alloc (.cells #[.int .i64 ((P : Int)), .int .i64 ((j : Int))] 24)).cell? ⟨w.heap.size, 1, none⟩ = some (.int .i64 ((j : Int))) := HRW.out.cell 1
  go_enter Try.func5, Try.ntmps5
  go_wp2_with fail
  refine (HS.out _).mono ?_; rintro e w1 ⟨rfl, C1⟩
  have B1 := chain HB0.out C1
  have RA1 := (HRW.out).below C1 (HRW.out).lt
  have q1RAa : w1.cell? ⟨w.heap.size, 0, none⟩ = some (.int .i64 ((P : Int))) := RA1.cell 0
  have q1RAb : w1.cell? ⟨w.heap.size, 1, none⟩ = some (.int .i64 ((j : Int))) := RA1.cell 1
  clear q0RAa q0RAb
  go_wp2_with fail
  refine (HV.out _).mono ?_; rintro e w2 ⟨rfl, C2⟩
  have B2 := chain B1 C2
  have RA2 := (RA1).below C2 (RA1).lt
  have q2RAa : w2.cell? ⟨w.heap.size, 0, none⟩ = some (.int .i64 ((P : Int))) := RA2.cell 0
  have q2RAb : w2.cell? ⟨w.heap.size, 1, none⟩ = some (.int .i64 ((j : Int))) := RA2.cell 1
  clear q1RAa q1RAb
  go_wp2_with fail
  refine (HW.out _).mono ?_; rintro e w3 ⟨rfl, C3⟩
  have B3 := chain B2 C3
  have RA3 := (RA2).below C3 (RA2).lt
  have q3RAa : w3.cell? ⟨w.heap.size, 0, none⟩ = some (.int .i64 ((P : Int))) := RA3.cell 0
  have q3RAb : w3.cell? ⟨w.heap.size, 1, none⟩ = some (.int .i64 ((j : Int))) := RA3.cell 1
  clear q2RAa q2RAb
  go_wp2_with fail
  refine (num_calls (0) _).mono ?_; rintro e _ ⟨rfl, rfl⟩
  go_wp2_with fail
  refine (HL.out _).mono ?_; rintro e w4 ⟨rfl, C4⟩
  have B4 := chain B3 C4
  have RA4 := (RA3).below C4 (RA3).lt
  have D4 := B4.alloc B4.size (.cells #[.int .i64 ((p : Int)), .int .i64 ((J0 : Int))] 24)
  have RA4' := RA4.alloc (.cells #[.int .i64 ((p : Int)), .int .i64 ((J0 : Int))] 24)
  have RL4' := Row.new w4 #[.int .i64 ((p : Int)), .int .i64 ((J0 : Int))] 24
  have q4RAa : (w4.alloc (.cells #[.int .i64 ((p : Int)), .int .i64 ((J0 : Int))] 24)).cell? ⟨w.heap.size, 0, none⟩ = some (.int .i64 ((P : Int))) := RA4'.cell 0
  have q4RAb : (w4.alloc (.cells #[.int .i64 ((p : Int)), .int .i64 ((J0 : Int))] 24)).cell? ⟨w.heap.size, 1, none⟩ = some (.int .i64 ((j : Int))) := RA4'.cell 1
  have q4RLa : (w4.alloc (.cells #[.int .i64 ((p : Int)), .int .i64 ((J0 : Int))] 24)).cell? ⟨w4.heap.size, 0, none⟩ = some (.int .i64 ((p : Int))) := RL4'.cell 0
  have q4RLb : (w4.alloc (.cells #[.int .i64 ((p : Int)), .int .i64 ((J0 : Int))] 24)).cell? ⟨w4.heap.size, 1, none⟩ = some (.int .i64 ((J0 : Int))) := RL4'.cell 1
  clear q3RAa q3RAb
  go_wp2_with fail
  refine (HR.out _).mono ?_; rintro e w5 ⟨rfl, C5⟩
  have B5 := chain D4 C5
  have RA5 := (RA4').below C5 (RA4').lt
  have RL5 := (RL4').below C5 (RL4').lt
  have D5 := B5.alloc B5.size (.cells #[.int .i64 ((p : Int)), .int .i64 ((J1 : Int))] 24)
  have RA5' := RA5.alloc (.cells #[.int .i64 ((p : Int)), .int .i64 ((J1 : Int))] 24)
  have RL5' := RL5.alloc (.cells #[.int .i64 ((p : Int)), .int .i64 ((J1 : Int))] 24)
  have RR5' := Row.new w5 #[.int .i64 ((p : Int)), .int .i64 ((J1 : Int))] 24
  have q5RAa : (w5.alloc (.cells #[.int .i64 ((p : Int)), .int .i64 ((J1 : Int))] 24)).cell? ⟨w.heap.size, 0, none⟩ = some (.int .i64 ((P : Int))) := RA5'.cell 0
  have q5RAb : (w5.alloc (.cells #[.int .i64 ((p : Int)), .int .i64 ((J1 : Int))] 24)).cell? ⟨w.heap.size, 1, none⟩ = some (.int .i64 ((j : Int))) := RA5'.cell 1
  have q5RLa : (w5.alloc (.cells #[.int .i64 ((p : Int)), .int .i64 ((J1 : Int))] 24)).cell? ⟨w4.heap.size, 0, none⟩ = some (.int .i64 ((p : Int))) := RL5'.cell 0
  have q5RLb : (w5.alloc (.cells #[.int .i64 ((p : Int)), .int .i64 ((J1 : Int))] 24)).cell? ⟨w4.heap.size, 1, none⟩ = some (.int .i64 ((J0 : Int))) := RL5'.cell 1
  have q5RRa : (w5.alloc (.cells #[.int .i64 ((p : Int)), .int .i64 ((J1 : Int))] 24)).cell? ⟨w5.heap.size, 0, none⟩ = some (.int .i64 ((p : Int))) := RR5'.cell 0
  have q5RRb : (w5.alloc (.cells #[.int .i64 ((p : Int)), .int .i64 ((J1 : Int))] 24)).cell? ⟨w5.heap.size, 1, none⟩ = some (.int .i64 ((J1 : Int))) := RR5'.cell 1
  clear q4RAa q4RAb q4RLa q4RLb
  go_wp2_with fail
  refine (HP.out _).mono ?_; rintro e w6 ⟨rfl, C6⟩
  have B6 := chain D5 C6
  have RA6 := (RA5').below C6 (RA5').lt
  have RL6 := (RL5').below C6 (RL5').lt
  have RR6 := (RR5').below C6 (RR5').lt
  have D6 := B6.alloc B6.size (.cells #[.int .i64 ((PP : Int)), .int .i64 ((JU : Int))] 24)
  have RA6' := RA6.alloc (.cells #[.int .i64 ((PP : Int)), .int .i64 ((JU : Int))] 24)
  have RL6' := RL6.alloc (.cells #[.int .i64 ((PP : Int)), .int .i64 ((JU : Int))] 24)
  have RR6' := RR6.alloc (.cells #[.int .i64 ((PP : Int)), .int .i64 ((JU : Int))] 24)
  have RP6' := Row.new w6 #[.int .i64 ((PP : Int)), .int .i64 ((JU : Int))] 24
  have q6RAa : (w6.alloc (.cells #[.int .i64 ((PP : Int)), .int .i64 ((JU : Int))] 24)).cell? ⟨w.heap.size, 0, none⟩ = some (.int .i64 ((P : Int))) := RA6'.cell 0
  have q6RAb : (w6.alloc (.cells #[.int .i64 ((PP : Int)), .int .i64 ((JU : Int))] 24)).cell? ⟨w.heap.size, 1, none⟩ = some (.int .i64 ((j : Int))) := RA6'.cell 1
  have q6RLa : (w6.alloc (.cells #[.int .i64 ((PP : Int)), .int .i64 ((JU : Int))] 24)).cell? ⟨w4.heap.size, 0, none⟩ = some (.int .i64 ((p : Int))) := RL6'.cell 0
  have q6RLb : (w6.alloc (.cells #[.int .i64 ((PP : Int)), .int .i64 ((JU : Int))] 24)).cell? ⟨w4.heap.size, 1, none⟩ = some (.int .i64 ((J0 : Int))) := RL6'.cell 1
  have q6RRa : (w6.alloc (.cells #[.int .i64 ((PP : Int)), .int .i64 ((JU : Int))] 24)).cell? ⟨w5.heap.size, 0, none⟩ = some (.int .i64 ((p : Int))) := RR6'.cell 0
  have q6RRb : (w6.alloc (.cells #[.int .i64 ((PP : Int)), .int .i64 ((JU : Int))] 24)).cell? ⟨w5.heap.size, 1, none⟩ = some (.int .i64 ((J1 : Int))) := RR6'.cell 1
  have q6RPa : (w6.alloc (.cells #[.int .i64 ((PP : Int)), .int .i64 ((JU : Int))] 24)).cell? ⟨w6.heap.size, 0, none⟩ = some (.int .i64 ((PP : Int))) := RP6'.cell 0
  have q6RPb : (w6.alloc (.cells #[.int .i64 ((PP : Int)), .int .i64 ((JU : Int))] 24)).cell? ⟨w6.heap.size, 1, none⟩ = some (.int .i64 ((JU : Int))) := RP6'.cell 1
  clear q5RAa q5RAb q5RLa q5RLb q5RRa q5RRb
  go_wp2_with fail
  refine (HSI.out _).mono ?_; rintro e w7 ⟨rfl, C7⟩
  have B7 := chain D6 C7
  have RA7 := (RA6').below C7 (RA6').lt
  have RL7 := (RL6').below C7 (RL6').lt
  have RR7 := (RR6').below C7 (RR6').lt
  have RP7 := (RP6').below C7 (RP6').lt
  have D7 := B7.alloc B7.size (.cells #[.int .i64 ((P : Int)), .int .i64 ((JX : Int))] 24)
  have RA7' := RA7.alloc (.cells #[.int .i64 ((P : Int)), .int .i64 ((JX : Int))] 24)
  have RL7' := RL7.alloc (.cells #[.int .i64 ((P : Int)), .int .i64 ((JX : Int))] 24)
  have RR7' := RR7.alloc (.cells #[.int .i64 ((P : Int)), .int .i64 ((JX : Int))] 24)
  have RP7' := RP7.alloc (.cells #[.int .i64 ((P : Int)), .int .i64 ((JX : Int))] 24)
  have RS7' := Row.new w7 #[.int .i64 ((P : Int)), .int .i64 ((JX : Int))] 24
  have q7RAa : (w7.alloc (.cells #[.int .i64 ((P : Int)), .int .i64 ((JX : Int))] 24)).cell? ⟨w.heap.size, 0, none⟩ = some (.int .i64 ((P : Int))) := RA7'.cell 0
  have q7RAb : (w7.alloc (.cells #[.int .i64 ((P : Int)), .int .i64 ((JX : Int))] 24)).cell? ⟨w.heap.size, 1, none⟩ = some (.int .i64 ((j : Int))) := RA7'.cell 1
  have q7RLa : (w7.alloc (.cells #[.int .i64 ((P : Int)), .int .i64 ((JX : Int))] 24)).cell? ⟨w4.heap.size, 0, none⟩ = some (.int .i64 ((p : Int))) := RL7'.cell 0
  have q7RLb : (w7.alloc (.cells #[.int .i64 ((P : Int)), .int .i64 ((JX : Int))] 24)).cell? ⟨w4.heap.size, 1, none⟩ = some (.int .i64 ((J0 : Int))) := RL7'.cell 1
  have q7RRa : (w7.alloc (.cells #[.int .i64 ((P : Int)), .int .i64 ((JX : Int))] 24)).cell? ⟨w5.heap.size, 0, none⟩ = some (.int .i64 ((p : Int))) := RR7'.cell 0
  have q7RRb : (w7.alloc (.cells #[.int .i64 ((P : Int)), .int .i64 ((JX : Int))] 24)).cell? ⟨w5.heap.size, 1, none⟩ = some (.int .i64 ((J1 : Int))) := RR7'.cell 1
  have q7RPa : (w7.alloc (.cells #[.int .i64 ((P : Int)), .int .i64 ((JX : Int))] 24)).cell? ⟨w6.heap.size, 0, none⟩ = some (.int .i64 ((PP : Int))) := RP7'.cell 0
  have q7RPb : (w7.alloc (.cells #[.int .i64 ((P : Int)), .int .i64 ((JX : Int))] 24)).cell? ⟨w6.heap.size, 1, none⟩ = some (.int .i64 ((JU : Int))) := RP7'.cell 1
  have q7RSa : (w7.alloc (.cells #[.int .i64 ((P : Int)), .int .i64 ((JX : Int))] 24)).cell? ⟨w7.heap.size, 0, none⟩ = some (.int .i64 ((P : Int))) := RS7'.cell 0
  have q7RSb : (w7.alloc (.cells #[.int .i64 ((P : Int)), .int .i64 ((JX : Int))] 24)).cell? ⟨w7.heap.size, 1, none⟩ = some (.int .i64 ((JX : Int))) := RS7'.cell 1
  clear q6RAa q6RAb q6RLa q6RLb q6RRa q6RRb q6RPa q6RPb
  go_wp2_with fail
  go_region_held3 (fun w' => w'.cell? ⟨w.heap.size, 0, none⟩ = some (.int .i64 ((P : Int)))) (first | assumption | exact q7RAa)
    (first | (go_at_call 12; (with_reducible refine (num_calls (0) _).mono ?_); rintro e _ ⟨rfl, rfl⟩))
  have RA107 := (RA7').drew
  have RL107 := (RL7').drew
  have RR107 := (RR7').drew
  have RP107 := (RP7').drew
  have RS107 := (RS7').drew
  have B107 := (D7).drew
  have q107RAa : ((w7.alloc (.cells #[.int .i64 ((P : Int)), .int .i64 ((JX : Int))] 24))).drew.cell? ⟨w.heap.size, 0, none⟩ = some (.int .i64 ((P : Int))) := RA107.cell 0
  have q107RAb : ((w7.alloc (.cells #[.int .i64 ((P : Int)), .int .i64 ((JX : Int))] 24))).drew.cell? ⟨w.heap.size, 1, none⟩ = some (.int .i64 ((j : Int))) := RA107.cell 1
  have q107RLa : ((w7.alloc (.cells #[.int .i64 ((P : Int)), .int .i64 ((JX : Int))] 24))).drew.cell? ⟨w4.heap.size, 0, none⟩ = some (.int .i64 ((p : Int))) := RL107.cell 0
  have q107RLb : ((w7.alloc (.cells #[.int .i64 ((P : Int)), .int .i64 ((JX : Int))] 24))).drew.cell? ⟨w4.heap.size, 1, none⟩ = some (.int .i64 ((J0 : Int))) := RL107.cell 1
  have q107RRa : ((w7.alloc (.cells #[.int .i64 ((P : Int)), .int .i64 ((JX : Int))] 24))).drew.cell? ⟨w5.heap.size, 0, none⟩ = some (.int .i64 ((p : Int))) := RR107.cell 0
  have q107RRb : ((w7.alloc (.cells #[.int .i64 ((P : Int)), .int .i64 ((JX : Int))] 24))).drew.cell? ⟨w5.heap.size, 1, none⟩ = some (.int .i64 ((J1 : Int))) := RR107.cell 1
  have q107RPa : ((w7.alloc (.cells #[.int .i64 ((P : Int)), .int .i64 ((JX : Int))] 24))).drew.cell? ⟨w6.heap.size, 0, none⟩ = some (.int .i64 ((PP : Int))) := RP107.cell 0
  have q107RPb : ((w7.alloc (.cells #[.int .i64 ((P : Int)), .int .i64 ((JX : Int))] 24))).drew.cell? ⟨w6.heap.size, 1, none⟩ = some (.int .i64 ((JU : Int))) := RP107.cell 1
  have q107RSa : ((w7.alloc (.cells #[.int .i64 ((P : Int)), .int .i64 ((JX : Int))] 24))).drew.cell? ⟨w7.heap.size, 0, none⟩ = some (.int .i64 ((P : Int))) := RS107.cell 0
  have q107RSb : ((w7.alloc (.cells #[.int .i64 ((P : Int)), .int .i64 ((JX : Int))] 24))).drew.cell? ⟨w7.heap.size, 1, none⟩ = some (.int .i64 ((JX : Int))) := RS107.cell 1
  clear q7RAa q7RAb q7RLa q7RLb q7RRa q7RRb q7RPa q7RPb q7RSa q7RSb
  go_wp2_with fail
  refine (num_calls (0) _).mono ?_; rintro e _ ⟨rfl, rfl⟩
  go_wp2_with fail
  refine (num_calls (0) _).mono ?_; rintro e _ ⟨rfl, rfl⟩
  go_wp2_with fail
  refine (KS.out _).mono ?_; rintro e w108 ⟨rfl, C108⟩
  have B108 := chain B107 C108
  have RA108 := (RA107).below C108 (RA107).lt
  have RL108 := (RL107).below C108 (RL107).lt
  have RR108 := (RR107).below C108 (RR107).lt
  have RP108 := (RP107).below C108 (RP107).lt
  have RS108 := (RS107).below C108 (RS107).lt
  have q108RAa : w108.cell? ⟨w.heap.size, 0, none⟩ = some (.int .i64 ((P : Int))) := RA108.cell 0
  have q108RAb : w108.cell? ⟨w.heap.size, 1, none⟩ = some (.int .i64 ((j : Int))) := RA108.cell 1
  have q108RLa : w108.cell? ⟨w4.heap.size, 0, none⟩ = some (.int .i64 ((p : Int))) := RL108.cell 0
  have q108RLb : w108.cell? ⟨w4.heap.size, 1, none⟩ = some (.int .i64 ((J0 : Int))) := RL108.cell 1
  have q108RRa : w108.cell? ⟨w5.heap.size, 0, none⟩ = some (.int .i64 ((p : Int))) := RR108.cell 0
  have q108RRb : w108.cell? ⟨w5.heap.size, 1, none⟩ = some (.int .i64 ((J1 : Int))) := RR108.cell 1
  have q108RPa : w108.cell? ⟨w6.heap.size, 0, none⟩ = some (.int .i64 ((PP : Int))) := RP108.cell 0
  have q108RPb : w108.cell? ⟨w6.heap.size, 1, none⟩ = some (.int .i64 ((JU : Int))) := RP108.cell 1
  have q108RSa : w108.cell? ⟨w7.heap.size, 0, none⟩ = some (.int .i64 ((P : Int))) := RS108.cell 0
  have q108RSb : w108.cell? ⟨w7.heap.size, 1, none⟩ = some (.int .i64 ((JX : Int))) := RS108.cell 1
  clear q107RAa q107RAb q107RLa q107RLb q107RRa q107RRb q107RPa q107RPb q107RSa q107RSb
  go_wp2_with fail
  refine (KT.out _).mono ?_; rintro e w109 ⟨rfl, C109⟩
  have B109 := chain B108 C109
  have RA109 := (RA108).below C109 (RA108).lt
  have RL109 := (RL108).below C109 (RL108).lt
  have RR109 := (RR108).below C109 (RR108).lt
  have RP109 := (RP108).below C109 (RP108).lt
  have RS109 := (RS108).below C109 (RS108).lt
  have q109RAa : w109.cell? ⟨w.heap.size, 0, none⟩ = some (.int .i64 ((P : Int))) := RA109.cell 0
  have q109RAb : w109.cell? ⟨w.heap.size, 1, none⟩ = some (.int .i64 ((j : Int))) := RA109.cell 1
  have q109RLa : w109.cell? ⟨w4.heap.size, 0, none⟩ = some (.int .i64 ((p : Int))) := RL109.cell 0
  have q109RLb : w109.cell? ⟨w4.heap.size, 1, none⟩ = some (.int .i64 ((J0 : Int))) := RL109.cell 1
  have q109RRa : w109.cell? ⟨w5.heap.size, 0, none⟩ = some (.int .i64 ((p : Int))) := RR109.cell 0
  have q109RRb : w109.cell? ⟨w5.heap.size, 1, none⟩ = some (.int .i64 ((J1 : Int))) := RR109.cell 1
  have q109RPa : w109.cell? ⟨w6.heap.size, 0, none⟩ = some (.int .i64 ((PP : Int))) := RP109.cell 0
  have q109RPb : w109.cell? ⟨w6.heap.size, 1, none⟩ = some (.int .i64 ((JU : Int))) := RP109.cell 1
  have q109RSa : w109.cell? ⟨w7.heap.size, 0, none⟩ = some (.int .i64 ((P : Int))) := RS109.cell 0
  have q109RSb : w109.cell? ⟨w7.heap.size, 1, none⟩ = some (.int .i64 ((JX : Int))) := RS109.cell 1
  clear q108RAa q108RAb q108RLa q108RLb q108RRa q108RRb q108RPa q108RPb q108RSa q108RSb
  go_wp2_with fail
  refine (KP.out _).mono ?_; rintro e w110 ⟨rfl, C110⟩
  have B110 := chain B109 C110
  have RA110 := (RA109).below C110 (RA109).lt
  have RL110 := (RL109).below C110 (RL109).lt
  have RR110 := (RR109).below C110 (RR109).lt
  have RP110 := (RP109).below C110 (RP109).lt
  have RS110 := (RS109).below C110 (RS109).lt
  have D110 := B110.alloc B110.size (.cells #[.int .i64 ((P : Int)), .int .i64 ((j : Int))] 24)
  have RA110' := RA110.alloc (.cells #[.int .i64 ((P : Int)), .int .i64 ((j : Int))] 24)
  have RL110' := RL110.alloc (.cells #[.int .i64 ((P : Int)), .int .i64 ((j : Int))] 24)
  have RR110' := RR110.alloc (.cells #[.int .i64 ((P : Int)), .int .i64 ((j : Int))] 24)
  have RP110' := RP110.alloc (.cells #[.int .i64 ((P : Int)), .int .i64 ((j : Int))] 24)
  have RS110' := RS110.alloc (.cells #[.int .i64 ((P : Int)), .int .i64 ((j : Int))] 24)
  have SA110' := Row.new w110 #[.int .i64 ((P : Int)), .int .i64 ((j : Int))] 24
  have q110RAa : (w110.alloc (.cells #[.int .i64 ((P : Int)), .int .i64 ((j : Int))] 24)).cell? ⟨w.heap.size, 0, none⟩ = some (.int .i64 ((P : Int))) := RA110'.cell 0
  have q110RAb : (w110.alloc (.cells #[.int .i64 ((P : Int)), .int .i64 ((j : Int))] 24)).cell? ⟨w.heap.size, 1, none⟩ = some (.int .i64 ((j : Int))) := RA110'.cell 1
  have q110RLa : (w110.alloc (.cells #[.int .i64 ((P : Int)), .int .i64 ((j : Int))] 24)).cell? ⟨w4.heap.size, 0, none⟩ = some (.int .i64 ((p : Int))) := RL110'.cell 0
  have q110RLb : (w110.alloc (.cells #[.int .i64 ((P : Int)), .int .i64 ((j : Int))] 24)).cell? ⟨w4.heap.size, 1, none⟩ = some (.int .i64 ((J0 : Int))) := RL110'.cell 1
  have q110RRa : (w110.alloc (.cells #[.int .i64 ((P : Int)), .int .i64 ((j : Int))] 24)).cell? ⟨w5.heap.size, 0, none⟩ = some (.int .i64 ((p : Int))) := RR110'.cell 0
  have q110RRb : (w110.alloc (.cells #[.int .i64 ((P : Int)), .int .i64 ((j : Int))] 24)).cell? ⟨w5.heap.size, 1, none⟩ = some (.int .i64 ((J1 : Int))) := RR110'.cell 1
  have q110RPa : (w110.alloc (.cells #[.int .i64 ((P : Int)), .int .i64 ((j : Int))] 24)).cell? ⟨w6.heap.size, 0, none⟩ = some (.int .i64 ((PP : Int))) := RP110'.cell 0
  have q110RPb : (w110.alloc (.cells #[.int .i64 ((P : Int)), .int .i64 ((j : Int))] 24)).cell? ⟨w6.heap.size, 1, none⟩ = some (.int .i64 ((JU : Int))) := RP110'.cell 1
  have q110RSa : (w110.alloc (.cells #[.int .i64 ((P : Int)), .int .i64 ((j : Int))] 24)).cell? ⟨w7.heap.size, 0, none⟩ = some (.int .i64 ((P : Int))) := RS110'.cell 0
  have q110RSb : (w110.alloc (.cells #[.int .i64 ((P : Int)), .int .i64 ((j : Int))] 24)).cell? ⟨w7.heap.size, 1, none⟩ = some (.int .i64 ((JX : Int))) := RS110'.cell 1
  have q110SAa : (w110.alloc (.cells #[.int .i64 ((P : Int)), .int .i64 ((j : Int))] 24)).cell? ⟨w110.heap.size, 0, none⟩ = some (.int .i64 ((P : Int))) := SA110'.cell 0
  have q110SAb : (w110.alloc (.cells #[.int .i64 ((P : Int)), .int .i64 ((j : Int))] 24)).cell? ⟨w110.heap.size, 1, none⟩ = some (.int .i64 ((j : Int))) := SA110'.cell 1
  clear q109RAa q109RAb q109RLa q109RLb q109RRa q109RRb q109RPa q109RPb q109RSa q109RSb
  go_wp2_with fail
  refine (KQ.out _).mono ?_; rintro e w111 ⟨rfl, C111⟩
  have B111 := chain D110 C111
  have RA111 := (RA110').below C111 (RA110').lt
  have RL111 := (RL110').below C111 (RL110').lt
  have RR111 := (RR110').below C111 (RR110').lt
  have RP111 := (RP110').below C111 (RP110').lt
  have RS111 := (RS110').below C111 (RS110').lt
  have SA111 := (SA110').below C111 (SA110').lt
  have D111 := B111.alloc B111.size (.cells #[.int .i64 ((P : Int)), .int .i64 ((j : Int))] 24)
  have RA111' := RA111.alloc (.cells #[.int .i64 ((P : Int)), .int .i64 ((j : Int))] 24)
  have RL111' := RL111.alloc (.cells #[.int .i64 ((P : Int)), .int .i64 ((j : Int))] 24)
  have RR111' := RR111.alloc (.cells #[.int .i64 ((P : Int)), .int .i64 ((j : Int))] 24)
  have RP111' := RP111.alloc (.cells #[.int .i64 ((P : Int)), .int .i64 ((j : Int))] 24)
  have RS111' := RS111.alloc (.cells #[.int .i64 ((P : Int)), .int .i64 ((j : Int))] 24)
  have SA111' := SA111.alloc (.cells #[.int .i64 ((P : Int)), .int .i64 ((j : Int))] 24)
  have SB111' := Row.new w111 #[.int .i64 ((P : Int)), .int .i64 ((j : Int))] 24
  have q111RAa : (w111.alloc (.cells #[.int .i64 ((P : Int)), .int .i64 ((j : Int))] 24)).cell? ⟨w.heap.size, 0, none⟩ = some (.int .i64 ((P : Int))) := RA111'.cell 0
  have q111RAb : (w111.alloc (.cells #[.int .i64 ((P : Int)), .int .i64 ((j : Int))] 24)).cell? ⟨w.heap.size, 1, none⟩ = some (.int .i64 ((j : Int))) := RA111'.cell 1
  have q111RLa : (w111.alloc (.cells #[.int .i64 ((P : Int)), .int .i64 ((j : Int))] 24)).cell? ⟨w4.heap.size, 0, none⟩ = some (.int .i64 ((p : Int))) := RL111'.cell 0
  have q111RLb : (w111.alloc (.cells #[.int .i64 ((P : Int)), .int .i64 ((j : Int))] 24)).cell? ⟨w4.heap.size, 1, none⟩ = some (.int .i64 ((J0 : Int))) := RL111'.cell 1
  have q111RRa : (w111.alloc (.cells #[.int .i64 ((P : Int)), .int .i64 ((j : Int))] 24)).cell? ⟨w5.heap.size, 0, none⟩ = some (.int .i64 ((p : Int))) := RR111'.cell 0
  have q111RRb : (w111.alloc (.cells #[.int .i64 ((P : Int)), .int .i64 ((j : Int))] 24)).cell? ⟨w5.heap.size, 1, none⟩ = some (.int .i64 ((J1 : Int))) := RR111'.cell 1
  have q111RPa : (w111.alloc (.cells #[.int .i64 ((P : Int)), .int .i64 ((j : Int))] 24)).cell? ⟨w6.heap.size, 0, none⟩ = some (.int .i64 ((PP : Int))) := RP111'.cell 0
  have q111RPb : (w111.alloc (.cells #[.int .i64 ((P : Int)), .int .i64 ((j : Int))] 24)).cell? ⟨w6.heap.size, 1, none⟩ = some (.int .i64 ((JU : Int))) := RP111'.cell 1
  have q111RSa : (w111.alloc (.cells #[.int .i64 ((P : Int)), .int .i64 ((j : Int))] 24)).cell? ⟨w7.heap.size, 0, none⟩ = some (.int .i64 ((P : Int))) := RS111'.cell 0
  have q111RSb : (w111.alloc (.cells #[.int .i64 ((P : Int)), .int .i64 ((j : Int))] 24)).cell? ⟨w7.heap.size, 1, none⟩ = some (.int .i64 ((JX : Int))) := RS111'.cell 1
  have q111SAa : (w111.alloc (.cells #[.int .i64 ((P : Int)), .int .i64 ((j : Int))] 24)).cell? ⟨w110.heap.size, 0, none⟩ = some (.int .i64 ((P : Int))) := SA111'.cell 0
  have q111SAb : (w111.alloc (.cells #[.int .i64 ((P : Int)), .int .i64 ((j : Int))] 24)).cell? ⟨w110.heap.size, 1, none⟩ = some (.int .i64 ((j : Int))) := SA111'.cell 1
  have q111SBa : (w111.alloc (.cells #[.int .i64 ((P : Int)), .int .i64 ((j : Int))] 24)).cell? ⟨w111.heap.size, 0, none⟩ = some (.int .i64 ((P : Int))) := SB111'.cell 0
  have q111SBb : (w111.alloc (.cells #[.int .i64 ((P : Int)), .int .i64 ((j : Int))] 24)).cell? ⟨w111.heap.size, 1, none⟩ = some (.int .i64 ((j : Int))) := SB111'.cell 1
  clear q110RAa q110RAb q110RLa q110RLb q110RRa q110RRb q110RPa q110RPb q110RSa q110RSb q110SAa q110SAb
  go_wp2_with fail
  refine (KX.out _).mono ?_; rintro e w112 ⟨rfl, C112⟩
  have B112 := chain D111 C112
  have RA112 := (RA111').below C112 (RA111').lt
  have RL112 := (RL111').below C112 (RL111').lt
  have RR112 := (RR111').below C112 (RR111').lt
  have RP112 := (RP111').below C112 (RP111').lt
  have RS112 := (RS111').below C112 (RS111').lt
  have SA112 := (SA111').below C112 (SA111').lt
  have SB112 := (SB111').below C112 (SB111').lt
  have D112 := B112.alloc B112.size (.cells #[.int .i64 ((p : Int)), .int .i64 ((J1 : Int))] 24)
  have RA112' := RA112.alloc (.cells #[.int .i64 ((p : Int)), .int .i64 ((J1 : Int))] 24)
  have RL112' := RL112.alloc (.cells #[.int .i64 ((p : Int)), .int .i64 ((J1 : Int))] 24)
  have RR112' := RR112.alloc (.cells #[.int .i64 ((p : Int)), .int .i64 ((J1 : Int))] 24)
  have RP112' := RP112.alloc (.cells #[.int .i64 ((p : Int)), .int .i64 ((J1 : Int))] 24)
  have RS112' := RS112.alloc (.cells #[.int .i64 ((p : Int)), .int .i64 ((J1 : Int))] 24)
  have SA112' := SA112.alloc (.cells #[.int .i64 ((p : Int)), .int .i64 ((J1 : Int))] 24)
  have SB112' := SB112.alloc (.cells #[.int .i64 ((p : Int)), .int .i64 ((J1 : Int))] 24)
  have SC112' := Row.new w112 #[.int .i64 ((p : Int)), .int .i64 ((J1 : Int))] 24
  have q112RAa : (w112.alloc (.cells #[.int .i64 ((p : Int)), .int .i64 ((J1 : Int))] 24)).cell? ⟨w.heap.size, 0, none⟩ = some (.int .i64 ((P : Int))) := RA112'.cell 0
  have q112RAb : (w112.alloc (.cells #[.int .i64 ((p : Int)), .int .i64 ((J1 : Int))] 24)).cell? ⟨w.heap.size, 1, none⟩ = some (.int .i64 ((j : Int))) := RA112'.cell 1
  have q112RLa : (w112.alloc (.cells #[.int .i64 ((p : Int)), .int .i64 ((J1 : Int))] 24)).cell? ⟨w4.heap.size, 0, none⟩ = some (.int .i64 ((p : Int))) := RL112'.cell 0
  have q112RLb : (w112.alloc (.cells #[.int .i64 ((p : Int)), .int .i64 ((J1 : Int))] 24)).cell? ⟨w4.heap.size, 1, none⟩ = some (.int .i64 ((J0 : Int))) := RL112'.cell 1
  have q112RRa : (w112.alloc (.cells #[.int .i64 ((p : Int)), .int .i64 ((J1 : Int))] 24)).cell? ⟨w5.heap.size, 0, none⟩ = some (.int .i64 ((p : Int))) := RR112'.cell 0
  have q112RRb : (w112.alloc (.cells #[.int .i64 ((p : Int)), .int .i64 ((J1 : Int))] 24)).cell? ⟨w5.heap.size, 1, none⟩ = some (.int .i64 ((J1 : Int))) := RR112'.cell 1
  have q112RPa : (w112.alloc (.cells #[.int .i64 ((p : Int)), .int .i64 ((J1 : Int))] 24)).cell? ⟨w6.heap.size, 0, none⟩ = some (.int .i64 ((PP : Int))) := RP112'.cell 0
  have q112RPb : (w112.alloc (.cells #[.int .i64 ((p : Int)), .int .i64 ((J1 : Int))] 24)).cell? ⟨w6.heap.size, 1, none⟩ = some (.int .i64 ((JU : Int))) := RP112'.cell 1
  have q112RSa : (w112.alloc (.cells #[.int .i64 ((p : Int)), .int .i64 ((J1 : Int))] 24)).cell? ⟨w7.heap.size, 0, none⟩ = some (.int .i64 ((P : Int))) := RS112'.cell 0
  have q112RSb : (w112.alloc (.cells #[.int .i64 ((p : Int)), .int .i64 ((J1 : Int))] 24)).cell? ⟨w7.heap.size, 1, none⟩ = some (.int .i64 ((JX : Int))) := RS112'.cell 1
  have q112SAa : (w112.alloc (.cells #[.int .i64 ((p : Int)), .int .i64 ((J1 : Int))] 24)).cell? ⟨w110.heap.size, 0, none⟩ = some (.int .i64 ((P : Int))) := SA112'.cell 0
  have q112SAb : (w112.alloc (.cells #[.int .i64 ((p : Int)), .int .i64 ((J1 : Int))] 24)).cell? ⟨w110.heap.size, 1, none⟩ = some (.int .i64 ((j : Int))) := SA112'.cell 1
  have q112SBa : (w112.alloc (.cells #[.int .i64 ((p : Int)), .int .i64 ((J1 : Int))] 24)).cell? ⟨w111.heap.size, 0, none⟩ = some (.int .i64 ((P : Int))) := SB112'.cell 0
  have q112SBb : (w112.alloc (.cells #[.int .i64 ((p : Int)), .int .i64 ((J1 : Int))] 24)).cell? ⟨w111.heap.size, 1, none⟩ = some (.int .i64 ((j : Int))) := SB112'.cell 1
  have q112SCa : (w112.alloc (.cells #[.int .i64 ((p : Int)), .int .i64 ((J1 : Int))] 24)).cell? ⟨w112.heap.size, 0, none⟩ = some (.int .i64 ((p : Int))) := SC112'.cell 0
  have q112SCb : (w112.alloc (.cells #[.int .i64 ((p : Int)), .int .i64 ((J1 : Int))] 24)).cell? ⟨w112.heap.size, 1, none⟩ = some (.int .i64 ((J1 : Int))) := SC112'.cell 1
  clear q111RAa q111RAb q111RLa q111RLb q111RRa q111RRb q111RPa q111RPb q111RSa q111RSb q111SAa q111SAb q111SBa q111SBb
  go_wp2_with fail
  refine (KY.out _).mono ?_; rintro e w113 ⟨rfl, C113⟩
  have B113 := chain D112 C113
  have RA113 := (RA112').below C113 (RA112').lt
  have RL113 := (RL112').below C113 (RL112').lt
  have RR113 := (RR112').below C113 (RR112').lt
  have RP113 := (RP112').below C113 (RP112').lt
  have RS113 := (RS112').below C113 (RS112').lt
  have SA113 := (SA112').below C113 (SA112').lt
  have SB113 := (SB112').below C113 (SB112').lt
  have SC113 := (SC112').below C113 (SC112').lt
  have D113 := B113.alloc B113.size (.cells #[.int .i64 ((p : Int)), .int .i64 ((J0 : Int))] 24)
  have RA113' := RA113.alloc (.cells #[.int .i64 ((p : Int)), .int .i64 ((J0 : Int))] 24)
  have RL113' := RL113.alloc (.cells #[.int .i64 ((p : Int)), .int .i64 ((J0 : Int))] 24)
  have RR113' := RR113.alloc (.cells #[.int .i64 ((p : Int)), .int .i64 ((J0 : Int))] 24)
  have RP113' := RP113.alloc (.cells #[.int .i64 ((p : Int)), .int .i64 ((J0 : Int))] 24)
  have RS113' := RS113.alloc (.cells #[.int .i64 ((p : Int)), .int .i64 ((J0 : Int))] 24)
  have SA113' := SA113.alloc (.cells #[.int .i64 ((p : Int)), .int .i64 ((J0 : Int))] 24)
  have SB113' := SB113.alloc (.cells #[.int .i64 ((p : Int)), .int .i64 ((J0 : Int))] 24)
  have SC113' := SC113.alloc (.cells #[.int .i64 ((p : Int)), .int .i64 ((J0 : Int))] 24)
  have SD113' := Row.new w113 #[.int .i64 ((p : Int)), .int .i64 ((J0 : Int))] 24
  have q113RAa : (w113.alloc (.cells #[.int .i64 ((p : Int)), .int .i64 ((J0 : Int))] 24)).cell? ⟨w.heap.size, 0, none⟩ = some (.int .i64 ((P : Int))) := RA113'.cell 0
  have q113RAb : (w113.alloc (.cells #[.int .i64 ((p : Int)), .int .i64 ((J0 : Int))] 24)).cell? ⟨w.heap.size, 1, none⟩ = some (.int .i64 ((j : Int))) := RA113'.cell 1
  have q113RLa : (w113.alloc (.cells #[.int .i64 ((p : Int)), .int .i64 ((J0 : Int))] 24)).cell? ⟨w4.heap.size, 0, none⟩ = some (.int .i64 ((p : Int))) := RL113'.cell 0
  have q113RLb : (w113.alloc (.cells #[.int .i64 ((p : Int)), .int .i64 ((J0 : Int))] 24)).cell? ⟨w4.heap.size, 1, none⟩ = some (.int .i64 ((J0 : Int))) := RL113'.cell 1
  have q113RRa : (w113.alloc (.cells #[.int .i64 ((p : Int)), .int .i64 ((J0 : Int))] 24)).cell? ⟨w5.heap.size, 0, none⟩ = some (.int .i64 ((p : Int))) := RR113'.cell 0
  have q113RRb : (w113.alloc (.cells #[.int .i64 ((p : Int)), .int .i64 ((J0 : Int))] 24)).cell? ⟨w5.heap.size, 1, none⟩ = some (.int .i64 ((J1 : Int))) := RR113'.cell 1
  have q113RPa : (w113.alloc (.cells #[.int .i64 ((p : Int)), .int .i64 ((J0 : Int))] 24)).cell? ⟨w6.heap.size, 0, none⟩ = some (.int .i64 ((PP : Int))) := RP113'.cell 0
  have q113RPb : (w113.alloc (.cells #[.int .i64 ((p : Int)), .int .i64 ((J0 : Int))] 24)).cell? ⟨w6.heap.size, 1, none⟩ = some (.int .i64 ((JU : Int))) := RP113'.cell 1
  have q113RSa : (w113.alloc (.cells #[.int .i64 ((p : Int)), .int .i64 ((J0 : Int))] 24)).cell? ⟨w7.heap.size, 0, none⟩ = some (.int .i64 ((P : Int))) := RS113'.cell 0
  have q113RSb : (w113.alloc (.cells #[.int .i64 ((p : Int)), .int .i64 ((J0 : Int))] 24)).cell? ⟨w7.heap.size, 1, none⟩ = some (.int .i64 ((JX : Int))) := RS113'.cell 1
  have q113SAa : (w113.alloc (.cells #[.int .i64 ((p : Int)), .int .i64 ((J0 : Int))] 24)).cell? ⟨w110.heap.size, 0, none⟩ = some (.int .i64 ((P : Int))) := SA113'.cell 0
  have q113SAb : (w113.alloc (.cells #[.int .i64 ((p : Int)), .int .i64 ((J0 : Int))] 24)).cell? ⟨w110.heap.size, 1, none⟩ = some (.int .i64 ((j : Int))) := SA113'.cell 1
  have q113SBa : (w113.alloc (.cells #[.int .i64 ((p : Int)), .int .i64 ((J0 : Int))] 24)).cell? ⟨w111.heap.size, 0, none⟩ = some (.int .i64 ((P : Int))) := SB113'.cell 0
  have q113SBb : (w113.alloc (.cells #[.int .i64 ((p : Int)), .int .i64 ((J0 : Int))] 24)).cell? ⟨w111.heap.size, 1, none⟩ = some (.int .i64 ((j : Int))) := SB113'.cell 1
  have q113SCa : (w113.alloc (.cells #[.int .i64 ((p : Int)), .int .i64 ((J0 : Int))] 24)).cell? ⟨w112.heap.size, 0, none⟩ = some (.int .i64 ((p : Int))) := SC113'.cell 0
  have q113SCb : (w113.alloc (.cells #[.int .i64 ((p : Int)), .int .i64 ((J0 : Int))] 24)).cell? ⟨w112.heap.size, 1, none⟩ = some (.int .i64 ((J1 : Int))) := SC113'.cell 1
  have q113SDa : (w113.alloc (.cells #[.int .i64 ((p : Int)), .int .i64 ((J0 : Int))] 24)).cell? ⟨w113.heap.size, 0, none⟩ = some (.int .i64 ((p : Int))) := SD113'.cell 0
  have q113SDb : (w113.alloc (.cells #[.int .i64 ((p : Int)), .int .i64 ((J0 : Int))] 24)).cell? ⟨w113.heap.size, 1, none⟩ = some (.int .i64 ((J0 : Int))) := SD113'.cell 1
  clear q112RAa q112RAb q112RLa q112RLb q112RRa q112RRb q112RPa q112RPb q112RSa q112RSb q112SAa q112SAb q112SBa q112SBb q112SCa q112SCb
  go_wp2_with fail
  refine (num_calls (0) _).mono ?_; rintro e _ ⟨rfl, rfl⟩
  go_wp2_with fail
  refine (num_calls (0) _).mono ?_; rintro e _ ⟨rfl, rfl⟩
  go_wp2_with fail
  refine (num_calls (0) _).mono ?_; rintro e _ ⟨rfl, rfl⟩
  go_wp2_with fail
  refine (num_calls (0) _).mono ?_; rintro e _ ⟨rfl, rfl⟩
  go_wp2
  go_ret
  exact ⟨by simp, D113⟩
end Go.Proofs.Ytibfbgjlieojfaa.Kin
