/- tree.Valid, Span, and the document's: their walks. -/
import Derived.Test.YtahkpcbemnfllaaDoorMem
import Derived.Deep.QuietTactic
import Derived.BigQuiet
import Derived.Lib.Hide
import Derived.IntWalk
import Derived.WalkKit
set_option linter.unusedVariables false
set_option linter.unusedSimpArgs false
namespace Go.Proofs.YtahkpcbemnfllaaDoor.Addrs
open Go.RowKit Go.Proofs.YtahkpcbemnfllaaDoor.Mem

/-- May there be such a node? -/
def valid (l i : Int) : Bool := decide (0 ≤ l ∧ l ≤ 62 ∧ 0 ≤ i ∧ i < 4611686018427387904 / 2 ^ l.toNat)
set_option maxHeartbeats 1000000 in
theorem mValid_calls (l i : Int) (w : World) : Calls Tryd.prog 58 #[.agg #[.int .i64 l, .int .i64 i]] w (fun e w' => e = .returned (.bool (valid l i)) ∧ Below w.heap.size w w') := by
  by_cases h1 : l < 0
  · have HV : Hid (valid l i = false) := Lib.hid (by unfold valid; exact decide_eq_false (by omega))
    have d1 : decide (0 ≤ l) = false := decide_eq_false (by omega)
    go_enter Tryd.func58, Tryd.ntmps58
    go_wp2_with fail
    go_quiet (fail)
    go_wp2
    go_ret
    exact ⟨by rw [HV.out]; rfl, (((Grew.refl w none).alloc _).drewN _).below⟩
  · by_cases h2 : 62 < l
    · have HV : Hid (valid l i = false) := Lib.hid (by unfold valid; exact decide_eq_false (by omega))
      have d1 : decide (0 ≤ l) = true := decide_eq_true (by omega)
      have d2 : decide (l ≤ 62) = false := decide_eq_false (by omega)
      have e1 : 0 ≤ l := by omega
      go_enter Tryd.func58, Tryd.ntmps58
      go_wp2_with fail
      go_quiet (fail)
      go_wp2
      go_ret
      exact ⟨by rw [HV.out]; rfl, (((Grew.refl w none).alloc _).drewN _).below⟩
    · by_cases h3 : i < 0
      · have HV : Hid (valid l i = false) := Lib.hid (by unfold valid; exact decide_eq_false (by omega))
        have d1 : decide (0 ≤ l) = true := decide_eq_true (by omega)
        have d2 : decide (l ≤ 62) = true := decide_eq_true (by omega)
        have d3 : decide (0 ≤ i) = false := decide_eq_false (by omega)
        have e1 : 0 ≤ l := by omega
        have e2 : l ≤ 62 := by omega
        go_enter Tryd.func58, Tryd.ntmps58
        go_wp2_with fail
        go_quiet (fail)
        go_wp2
        go_ret
        exact ⟨by rw [HV.out]; rfl, (((Grew.refl w none).alloc _).drewN _).below⟩
      · have HV : Hid (valid l i = decide (i < 4611686018427387904 / 2 ^ l.toNat)) := Lib.hid (by
          unfold valid
          rw [decide_eq_decide]
          exact ⟨fun h => h.2.2.2, fun h => ⟨by omega, by omega, by omega, h⟩⟩)
        have h64 : l ≤ 64 := by omega
        have d1 : decide (0 ≤ l) = true := decide_eq_true (by omega)
        have d2 : decide (l ≤ 62) = true := decide_eq_true (by omega)
        have d3 : decide (0 ≤ i) = true := decide_eq_true (by omega)
        have e1 : 0 ≤ l := by omega
        have e2 : l ≤ 62 := by omega
        have e3 : 0 ≤ i := by omega
        go_enter Tryd.func58, Tryd.ntmps58
        go_wp2_with fail
        go_quiet (fail)
        go_wp2
        go_ret
        exact ⟨by rw [HV.out]; rfl, (((Grew.refl w none).alloc _).drewN _).below⟩
theorem valid_iff (l i : Int) : valid l i = true ↔ ∃ p j : Nat, l = p ∧ i = j ∧ p ≤ 62 ∧ (j + 1) * 2 ^ p ≤ 4611686018427387904 := by
  unfold valid
  rw [decide_eq_true_iff]
  constructor
  · rintro ⟨h1, h2, h3, h4⟩
    refine ⟨l.toNat, i.toNat, by omega, by omega, by omega, ?_⟩
    rw [← Nat.le_div_iff_mul_le (Nat.two_pow_pos _)]
    have : ((i.toNat : Nat) : Int) < ((4611686018427387904 / 2 ^ l.toNat : Nat) : Int) := by
      rw [Int.natCast_ediv, Int.natCast_pow]
      rw [Int.toNat_of_nonneg h3]
      exact h4
    omega
  · rintro ⟨p, j, rfl, rfl, hp, hj⟩
    rw [← Nat.le_div_iff_mul_le (Nat.two_pow_pos _)] at hj
    refine ⟨by omega, by omega, by omega, ?_⟩
    have : ((j : Nat) : Int) < ((4611686018427387904 / 2 ^ p : Nat) : Int) := by omega
    rw [Int.natCast_ediv, Int.natCast_pow] at this
    rw [Int.toNat_natCast]
    exact this
def SpanNo (w : World) (e : Ending) (w' : World) : Prop := e = .returned (.tuple #[.int .i64 0, .int .i64 0, .int .i64 50]) ∧ Below w.heap.size w w'
def SpanYes (lo hi : Nat) (w : World) (e : Ending) (w' : World) : Prop := e = .returned (.tuple #[.int .i64 (lo : Int), .int .i64 (hi : Int), .int .i64 0]) ∧ Below w.heap.size w w'
set_option maxHeartbeats 1000000 in
theorem mSpan_no (l i : Int) (w : World) (h : valid l i = false) : Calls Tryd.prog 46 #[.agg #[.int .i64 l, .int .i64 i]] w (SpanNo w) := by
  have HV := Lib.hid (fun W => mValid_calls l i W)
  rw [h] at HV
  clear h
  go_enter Tryd.func46, Tryd.ntmps46
  go_wp2_with fail
  refine (HV.out _).mono ?_; rintro e w1 ⟨rfl, hb⟩
  have hb2 := ((Below.refl w.heap.size w).alloc (Nat.le_refl _) (.cells #[.int .i64 l, .int .i64 i] 52)).trans (hb.mono (by simp))
  clear hb
  go_wp2
  go_ret3
  exact ⟨rfl, hb2⟩
set_option maxHeartbeats 1000000 in
theorem mSpan_yes (p j : Nat) (w : World) (hp : p ≤ 62) (hj : (j + 1) * 2 ^ p ≤ 4611686018427387904) : Calls Tryd.prog 46 #[.agg #[.int .i64 (p : Int), .int .i64 (j : Int)]] w (SpanYes (j * 2 ^ p) ((j + 1) * 2 ^ p) w) := by
  have h : valid (p : Int) (j : Int) = true := (valid_iff _ _).2 ⟨p, j, rfl, rfl, hp, hj⟩
  have HV := Lib.hid (fun W => mValid_calls (p : Int) (j : Int) W)
  rw [h] at HV
  clear h
  have hpos := Nat.two_pow_pos p
  obtain ⟨lo, hlo⟩ : ∃ lo : Nat, j * 2 ^ p = lo := ⟨_, rfl⟩
  obtain ⟨hi, hhi⟩ : ∃ hi : Nat, (j + 1) * 2 ^ p = hi := ⟨_, rfl⟩
  have hlh : lo + 2 ^ p = hi := by rw [← hlo, ← hhi, Nat.add_mul, Nat.one_mul]
  have hjb : j + 1 ≤ 4611686018427387904 := Nat.le_trans (Nat.le_mul_of_pos_right _ hpos) hj
  rw [hhi] at hj
  have hw0 : IntKind.i64.wrap ((j : Int) + 1) = (j : Int) + 1 := by rw [IntWalk.i64_in _ (by omega)]
  have hw1 : IntKind.i64.wrap ((j : Int) * 2 ^ p) = (lo : Int) := by
    have : (j : Int) * 2 ^ p = ((j * 2 ^ p : Nat) : Int) := by rw [Int.natCast_mul, Int.natCast_pow]; rfl
    rw [this, hlo, IntWalk.i64_in _ (by omega)]
  have hw2 : IntKind.i64.wrap (((j : Int) + 1) * 2 ^ p) = (hi : Int) := by
    have : ((j : Int) + 1) * 2 ^ p = (((j + 1) * 2 ^ p : Nat) : Int) := by rw [Int.natCast_mul, Int.natCast_pow]; rfl
    rw [this, hhi, IntWalk.i64_in _ (by omega)]
  have h64 : (p : Int) ≤ 64 := by omega
  have HLO := Lib.hid hlo
  have HHI := Lib.hid hhi
  rw [hlo, hhi]
  clear hlo hhi hlh
  have c0 := (Row.new w #[.int .i64 (p : Int), .int .i64 (j : Int)] 52)
  have HR := Lib.hid c0
  clear c0
  go_enter Tryd.func46, Tryd.ntmps46
  go_wp2_with fail
  refine (HV.out _).mono ?_; rintro e w1 ⟨rfl, hb⟩
  have hb2 := ((Below.refl w.heap.size w).alloc (Nat.le_refl _) (.cells #[.int .i64 (p : Int), .int .i64 (j : Int)] 52)).trans (hb.mono (by simp))
  have r1 := HR.out.below hb (by simp)
  have ca := r1.cell 0
  have cb := r1.cell 1
  simp at ca cb
  clear hb r1
  go_wp2_with fail
  go_quiet (fail)
  go_wp2
  go_ret3
  exact ⟨rfl, ((Grew.of_below hb2 none).drewN _).below⟩
end Go.Proofs.YtahkpcbemnfllaaDoor.Addrs
