/- open, frontier, Start, sameMade: their walks. -/
import Derived.Test.YtahkpcbemnfllaaDoorRBeh
set_option linter.unusedVariables false
set_option linter.unusedSimpArgs false
namespace Go.Proofs.YtahkpcbemnfllaaDoor.Comp
open Go.RowKit Go.Proofs.YtahkpcbemnfllaaDoor.Base Go.Proofs.YtahkpcbemnfllaaDoor.Mem Go.Proofs.YtahkpcbemnfllaaDoor.Strs Go.Proofs.YtahkpcbemnfllaaDoor.ShaDig Go.Proofs.YtahkpcbemnfllaaDoor.TreeHash Go.Proofs.YtahkpcbemnfllaaDoor.Cov
open Go.Proofs.YtahkpcbemnfllaaDoor.Lst (OwnA Adr OwnA.shape Kp own_below Lst ac ac_append ac_length infoAddr own_lt own_base own_shape own_kp)
attribute [-go_sem] Go.Builtin.append_

/-- What Start answers. -/
def startL (z : Int) : Int := if z < 0 ∨ 4611686018427387904 < z then 0 else z
def startE (z : Int) : Int := if z < 0 ∨ 4611686018427387904 < z then 10 else 0
def Started (z : Int) (w : World) (e : Ending) (w' : World) : Prop := e = .returned (.tuple #[fv (startL z) (startL z) none 0 0, .int .i64 (startE z)]) ∧ Below w.heap.size w w'
set_option maxHeartbeats 1000000 in
theorem mstart_calls (z : Int) (w : World) : Calls Tryd.prog 15 #[.int .i64 z] w (Started z w) := by
  have hb : ∀ v1 v2 v3, Below w.heap.size w ((((w.alloc (.cells #[.int .i64 0, .int .i64 0, .slice none 0 0] 24)).setCell ⟨w.heap.size, 0, none⟩ v1).setCell ⟨w.heap.size, 1, none⟩ v2).setCell ⟨w.heap.size, 2, none⟩ v3) := fun v1 v2 v3 => ((((Below.refl _ w).alloc (Nat.le_refl _) _).setCell (Nat.le_refl _) _).setCell (Nat.le_refl _) _).setCell (Nat.le_refl _) _
  have HB := Lib.hid hb
  clear hb
  by_cases h1 : z < 0
  · have e1 : Hid (startL z = 0 ∧ startE z = 10) := Lib.hid (by unfold startL startE; rw [if_pos (.inl h1), if_pos (.inl h1)]; exact ⟨rfl, rfl⟩)
    unfold Started
    rw [e1.out.1, e1.out.2]
    go_enter Tryd.func15, Tryd.ntmps15
    go_wp2
    refine bodyPost_ret (v := .tuple #[fv 0 0 none 0 0, .int .i64 10]) (by simp [results, Tryd.f15, go_sem]) rfl ⟨rfl, ?_⟩
    first | exact HB.out _ _ _ | exact (Below.refl _ w).alloc (Nat.le_refl _) _
  · have d1 : decide (z < 0) = false := decide_eq_false h1
    by_cases h2 : 4611686018427387904 < z
    · have e1 : Hid (startL z = 0 ∧ startE z = 10) := Lib.hid (by unfold startL startE; rw [if_pos (.inr h2), if_pos (.inr h2)]; exact ⟨rfl, rfl⟩)
      unfold Started
      rw [e1.out.1, e1.out.2]
      go_enter Tryd.func15, Tryd.ntmps15
      go_wp2
      refine bodyPost_ret (v := .tuple #[fv 0 0 none 0 0, .int .i64 10]) (by simp [results, Tryd.f15, go_sem]) rfl ⟨rfl, ?_⟩
      first | exact HB.out _ _ _ | exact (Below.refl _ w).alloc (Nat.le_refl _) _
    · have d2 : decide (4611686018427387904 < z) = false := decide_eq_false h2
      have e1 : Hid (startL z = z ∧ startE z = 0) := Lib.hid (by unfold startL startE; rw [if_neg (by omega), if_neg (by omega)]; exact ⟨rfl, rfl⟩)
      unfold Started
      rw [e1.out.1, e1.out.2]
      go_enter Tryd.func15, Tryd.ntmps15
      go_wp2
      refine bodyPost_ret (v := .tuple #[fv z z none 0 0, .int .i64 0]) (by simp [results, Tryd.f15, go_sem]) rfl ⟨rfl, ?_⟩
      first | exact HB.out _ _ _ | exact (Below.refl _ w).alloc (Nat.le_refl _) _
set_option maxHeartbeats 1000000 in
theorem rstart_calls (z : Int) (w : World) : Calls Tryd.prog 16 #[.int .i64 z] w (Started z w) := by
  have hb : ∀ v1 v2 v3, Below w.heap.size w ((((w.alloc (.cells #[.int .i64 0, .int .i64 0, .slice none 0 0] 24)).setCell ⟨w.heap.size, 0, none⟩ v1).setCell ⟨w.heap.size, 1, none⟩ v2).setCell ⟨w.heap.size, 2, none⟩ v3) := fun v1 v2 v3 => ((((Below.refl _ w).alloc (Nat.le_refl _) _).setCell (Nat.le_refl _) _).setCell (Nat.le_refl _) _).setCell (Nat.le_refl _) _
  have HB := Lib.hid hb
  clear hb
  by_cases h1 : z < 0
  · have e1 : Hid (startL z = 0 ∧ startE z = 10) := Lib.hid (by unfold startL startE; rw [if_pos (.inl h1), if_pos (.inl h1)]; exact ⟨rfl, rfl⟩)
    unfold Started
    rw [e1.out.1, e1.out.2]
    go_enter Tryd.func16, Tryd.ntmps16
    go_wp2
    refine bodyPost_ret (v := .tuple #[fv 0 0 none 0 0, .int .i64 10]) (by simp [results, Tryd.f16, go_sem]) rfl ⟨rfl, ?_⟩
    first | exact HB.out _ _ _ | exact (Below.refl _ w).alloc (Nat.le_refl _) _
  · have d1 : decide (z < 0) = false := decide_eq_false h1
    by_cases h2 : 4611686018427387904 < z
    · have e1 : Hid (startL z = 0 ∧ startE z = 10) := Lib.hid (by unfold startL startE; rw [if_pos (.inr h2), if_pos (.inr h2)]; exact ⟨rfl, rfl⟩)
      unfold Started
      rw [e1.out.1, e1.out.2]
      go_enter Tryd.func16, Tryd.ntmps16
      go_wp2
      refine bodyPost_ret (v := .tuple #[fv 0 0 none 0 0, .int .i64 10]) (by simp [results, Tryd.f16, go_sem]) rfl ⟨rfl, ?_⟩
      first | exact HB.out _ _ _ | exact (Below.refl _ w).alloc (Nat.le_refl _) _
    · have d2 : decide (4611686018427387904 < z) = false := decide_eq_false h2
      have e1 : Hid (startL z = z ∧ startE z = 0) := Lib.hid (by unfold startL startE; rw [if_neg (by omega), if_neg (by omega)]; exact ⟨rfl, rfl⟩)
      unfold Started
      rw [e1.out.1, e1.out.2]
      go_enter Tryd.func16, Tryd.ntmps16
      go_wp2
      refine bodyPost_ret (v := .tuple #[fv z z none 0 0, .int .i64 0]) (by simp [results, Tryd.f16, go_sem]) rfl ⟨rfl, ?_⟩
      first | exact HB.out _ _ _ | exact (Below.refl _ w).alloc (Nat.le_refl _) _
/-- Two lists of the same nodes are the same. -/
theorem sameMade_calls (A B : Option Addr) (n c d : Nat) (l : List Md) (w : World) (ha : Mds w A n l) (hb : Mds w B n l) (hn : n ≤ 1000000000000) :
    Calls Tryd.prog 21 #[.slice A n c, .slice B n d] w (fun e w' => e = .returned (.bool true) ∧ ∃ k, w' = w.drewN k) := by
  go_enter Tryd.func21, Tryd.ntmps21
  go_wp2
  go_loopw [5] (fun i wr => ∃ k : Nat, i = .int .i64 k ∧ k ≤ n ∧ Hid (∃ j, wr = w.drewN j)) (fun i _ => n - (intOf i).toNat)
  case atStart => exact ⟨0, rfl, by omega, Lib.hid ⟨0, rfl⟩⟩
  case round =>
    obtain ⟨k, rfl, hk, hw⟩ := hrel
    obtain ⟨j, rfl⟩ := hw.out
    clear hw
    by_cases hlt : k < n
    · obtain ⟨ad, X, rfl, _, hX, hXb, a1, a2, a3⟩ := ha.at3 k hlt
      obtain ⟨bd, Y, rfl, _, hY, hYb, b1, b2, b3⟩ := hb.at3 k hlt
      have hlt' : (k : Int) < (n : Int) := by omega
      clear ha hb hXb hYb
      generalize l.getD k md0 = z at *
      go_wp2
      go_quiet (fail)
      go_wp2
      go_roundw
      case rel => exact ⟨k + 1, by go_num, by omega, Lib.hid ⟨j + nq, rfl⟩⟩
      case measure => simp only [intOf]; omega
    · go_wp2
      go_ret
      exact ⟨rfl, j, rfl⟩
end Go.Proofs.YtahkpcbemnfllaaDoor.Comp
