/- NumsSums: Add and Mul answer as the document says for every two ints, every refusal too; no condition. -/
import Derived.Test.YthmcibahdbglnaaProg
import Derived.Test.YthmcibahdbglnaaBase
import Derived.Test.YthmcibahdbglnaaWWords
import Derived.WalkKit
import Derived.BigQuiet
import Derived.Deep.QuietTactic
import Derived.Outline
set_option linter.unusedVariables false
namespace Go.Proofs.Ythmcibahdbglnaa.Sums
open Go.RowKit Go.Proofs.Ythmcibahdbglnaa.Base Go.Proofs.YthmcibahdbglnaaW.PrintWords

theorem ediv_range {b : Int} (h : 0 < b) : 0 ≤ (9223372036854775807 : Int) / b ∧ (9223372036854775807 : Int) / b ≤ 9223372036854775807 := ⟨Int.ediv_nonneg (by decide) (by omega), Int.ediv_le_self _ (by decide)⟩
def addR (a b : Int) : Int × Int := if a < 0 ∨ b < 0 then (0, 10) else if a ≤ 9223372036854775807 - b then (a + b, 0) else (0, 11)
def mulR (a b : Int) : Int × Int := if a < 0 ∨ b < 0 then (0, 10) else if a * b ≤ 9223372036854775807 then (a * b, 0) else (0, 11)

def Tells (r : Int × Int) (w : World) (e : Ending) (w' : World) : Prop := e = .returned (.tuple #[.int .i64 r.1, .int .i64 r.2]) ∧ Drawn0 w w'

theorem add_neg (a b : Int) (w : World) (h : a < 0) : Calls Try.prog 11 #[.int .i64 a, .int .i64 b] w (Tells (0, 10) w) := by
  go_enter Try.func11, Try.ntmps11
  go_wp2
  go_ret2
  exact ⟨rfl, Drawn0.refl _⟩
theorem add_neg2 (a b : Int) (w : World) (h : 0 ≤ a) (h2 : b < 0) : Calls Try.prog 11 #[.int .i64 a, .int .i64 b] w (Tells (0, 10) w) := by
  go_enter Try.func11, Try.ntmps11
  go_wp2
  go_ret2
  exact ⟨rfl, Drawn0.refl _⟩
theorem add_yes (a b : Int) (w : World) (h : 0 ≤ a) (h2 : 0 ≤ b) (h3 : a ≤ 9223372036854775807 - b) : Calls Try.prog 11 #[.int .i64 a, .int .i64 b] w (Tells (a + b, 0) w) := by
  go_enter Try.func11, Try.ntmps11
  go_wp2
  go_ret2
  exact ⟨rfl, Drawn0.refl _⟩
theorem add_no (a b : Int) (w : World) (h : 0 ≤ a) (ha : a ≤ 9223372036854775807) (h2 : 0 ≤ b) (hb : b ≤ 9223372036854775807) (h3 : 9223372036854775807 - b < a) : Calls Try.prog 11 #[.int .i64 a, .int .i64 b] w (Tells (0, 11) w) := by
  have hd : decide (a ≤ 9223372036854775807 - b) = false := by simp; omega
  go_enter Try.func11, Try.ntmps11
  go_wp2
  go_ret2
  exact ⟨rfl, Drawn0.refl _⟩
theorem radd_neg (a b : Int) (w : World) (h : a < 0) : Calls Try.prog 12 #[.int .i64 a, .int .i64 b] w (Tells (0, 10) w) := by
  go_enter Try.func12, Try.ntmps12
  go_wp2
  go_ret2
  exact ⟨rfl, Drawn0.refl _⟩
theorem radd_neg2 (a b : Int) (w : World) (h : 0 ≤ a) (h2 : b < 0) : Calls Try.prog 12 #[.int .i64 a, .int .i64 b] w (Tells (0, 10) w) := by
  go_enter Try.func12, Try.ntmps12
  go_wp2
  go_ret2
  exact ⟨rfl, Drawn0.refl _⟩
theorem radd_yes (a b : Int) (w : World) (h : 0 ≤ a) (h2 : 0 ≤ b) (h3 : a ≤ 9223372036854775807 - b) : Calls Try.prog 12 #[.int .i64 a, .int .i64 b] w (Tells (a + b, 0) w) := by
  go_enter Try.func12, Try.ntmps12
  go_wp2
  go_ret2
  exact ⟨rfl, Drawn0.refl _⟩
theorem radd_no (a b : Int) (w : World) (h : 0 ≤ a) (ha : a ≤ 9223372036854775807) (h2 : 0 ≤ b) (hb : b ≤ 9223372036854775807) (h3 : 9223372036854775807 - b < a) : Calls Try.prog 12 #[.int .i64 a, .int .i64 b] w (Tells (0, 11) w) := by
  go_enter Try.func12, Try.ntmps12
  go_wp2
  go_ret2
  exact ⟨rfl, Drawn0.refl _⟩

theorem mul_neg (a b : Int) (w : World) (h : a < 0) : Calls Try.prog 13 #[.int .i64 a, .int .i64 b] w (Tells (0, 10) w) := by
  go_enter Try.func13, Try.ntmps13
  go_wp2
  go_ret2
  exact ⟨rfl, Drawn0.refl _⟩
theorem mul_neg2 (a b : Int) (w : World) (h : 0 ≤ a) (h2 : b < 0) : Calls Try.prog 13 #[.int .i64 a, .int .i64 b] w (Tells (0, 10) w) := by
  go_enter Try.func13, Try.ntmps13
  go_wp2
  go_ret2
  exact ⟨rfl, Drawn0.refl _⟩
theorem mul_zero (a : Int) (w : World) (h : 0 ≤ a) : Calls Try.prog 13 #[.int .i64 a, .int .i64 0] w (Tells (0, 0) w) := by
  go_enter Try.func13, Try.ntmps13
  go_wp2
  go_ret2
  exact ⟨rfl, Drawn0.refl _⟩
theorem mul_yes (a b : Int) (w : World) (h : 0 ≤ a) (h2 : 0 < b) (q : Int) (hq : (9223372036854775807 : Int) / b = q) (hq0 : 0 ≤ q) (hq1 : q ≤ 9223372036854775807) (h3 : a ≤ q) (p : Int) (hp : a * b = p) (hp0 : 0 ≤ p) (hp1 : p ≤ 9223372036854775807) :
    Calls Try.prog 13 #[.int .i64 a, .int .i64 b] w (Tells (p, 0) w) := by
  go_enter Try.func13, Try.ntmps13
  go_wp2
  go_ret2
  exact ⟨rfl, Drawn0.refl _⟩
theorem mul_no (a b : Int) (w : World) (h : 0 ≤ a) (h2 : 0 < b) (q : Int) (hq : (9223372036854775807 : Int) / b = q) (hq0 : 0 ≤ q) (hq1 : q ≤ 9223372036854775807) (h3 : q < a) :
    Calls Try.prog 13 #[.int .i64 a, .int .i64 b] w (Tells (0, 11) w) := by
  have hd : decide (a ≤ q) = false := by simp; omega
  go_enter Try.func13, Try.ntmps13
  go_wp2
  go_ret2
  exact ⟨rfl, Drawn0.refl _⟩
theorem rmul_neg (a b : Int) (w : World) (h : a < 0) : Calls Try.prog 14 #[.int .i64 a, .int .i64 b] w (Tells (0, 10) w) := by
  go_enter Try.func14, Try.ntmps14
  go_wp2
  go_ret2
  exact ⟨rfl, Drawn0.refl _⟩
theorem rmul_neg2 (a b : Int) (w : World) (h : 0 ≤ a) (h2 : b < 0) : Calls Try.prog 14 #[.int .i64 a, .int .i64 b] w (Tells (0, 10) w) := by
  go_enter Try.func14, Try.ntmps14
  go_wp2
  go_ret2
  exact ⟨rfl, Drawn0.refl _⟩
theorem rmul_zero (b : Int) (w : World) (h : 0 ≤ b) : Calls Try.prog 14 #[.int .i64 0, .int .i64 b] w (Tells (0, 0) w) := by
  go_enter Try.func14, Try.ntmps14
  go_wp2
  go_ret2
  exact ⟨rfl, Drawn0.refl _⟩
theorem rmul_yes (a b : Int) (w : World) (h : 0 < a) (h2 : 0 ≤ b) (q : Int) (hq : (9223372036854775807 : Int) / a = q) (hq0 : 0 ≤ q) (hq1 : q ≤ 9223372036854775807) (h3 : b ≤ q) (p : Int) (hp : a * b = p) (hp0 : 0 ≤ p) (hp1 : p ≤ 9223372036854775807) :
    Calls Try.prog 14 #[.int .i64 a, .int .i64 b] w (Tells (p, 0) w) := by
  go_enter Try.func14, Try.ntmps14
  go_wp2
  go_ret2
  exact ⟨rfl, Drawn0.refl _⟩
theorem rmul_no (a b : Int) (w : World) (h : 0 < a) (h2 : 0 ≤ b) (q : Int) (hq : (9223372036854775807 : Int) / a = q) (hq0 : 0 ≤ q) (hq1 : q ≤ 9223372036854775807) (h3 : q < b) :
    Calls Try.prog 14 #[.int .i64 a, .int .i64 b] w (Tells (0, 11) w) := by
  go_enter Try.func14, Try.ntmps14
  go_wp2
  go_ret2
  exact ⟨rfl, Drawn0.refl _⟩

theorem add_any (a b : Int) (ha : a ≤ 9223372036854775807) (hb : b ≤ 9223372036854775807) (w : World) : Calls Try.prog 11 #[.int .i64 a, .int .i64 b] w (Tells (addR a b) w) := by
  unfold addR
  by_cases h1 : a < 0
  · rw [if_pos (.inl h1)]; exact add_neg a b w h1
  · by_cases h2 : b < 0
    · rw [if_pos (.inr h2)]; exact add_neg2 a b w (by omega) h2
    · rw [if_neg (by omega)]
      by_cases h3 : a ≤ 9223372036854775807 - b
      · rw [if_pos h3]; exact add_yes a b w (by omega) (by omega) h3
      · rw [if_neg h3]; exact add_no a b w (by omega) ha (by omega) hb (by omega)
theorem radd_any (a b : Int) (ha : a ≤ 9223372036854775807) (hb : b ≤ 9223372036854775807) (w : World) : Calls Try.prog 12 #[.int .i64 a, .int .i64 b] w (Tells (addR a b) w) := by
  unfold addR
  by_cases h1 : a < 0
  · rw [if_pos (.inl h1)]; exact radd_neg a b w h1
  · by_cases h2 : b < 0
    · rw [if_pos (.inr h2)]; exact radd_neg2 a b w (by omega) h2
    · rw [if_neg (by omega)]
      by_cases h3 : a ≤ 9223372036854775807 - b
      · rw [if_pos h3]; exact radd_yes a b w (by omega) (by omega) h3
      · rw [if_neg h3]; exact radd_no a b w (by omega) ha (by omega) hb (by omega)
theorem mul_any (a b : Int) (w : World) : Calls Try.prog 13 #[.int .i64 a, .int .i64 b] w (Tells (mulR a b) w) := by
  unfold mulR
  by_cases h1 : a < 0
  · rw [if_pos (.inl h1)]; exact mul_neg a b w h1
  · by_cases h2 : b < 0
    · rw [if_pos (.inr h2)]; exact mul_neg2 a b w (by omega) h2
    · rw [if_neg (by omega)]
      by_cases h0 : b = 0
      · subst h0
        rw [if_pos (by rw [Int.mul_zero]; decide), Int.mul_zero]; exact mul_zero a w (by omega)
      · have hpos : 0 < b := by omega
        obtain ⟨q0, q1⟩ := ediv_range hpos
        have hle := Int.le_ediv_iff_mul_le (a := a) (b := 9223372036854775807) hpos
        have hn := Int.mul_nonneg (show 0 ≤ a by omega) (show 0 ≤ b by omega)
        by_cases h3 : a * b ≤ 9223372036854775807
        · rw [if_pos h3]; exact mul_yes a b w (by omega) hpos _ rfl q0 q1 (hle.2 h3) _ rfl hn h3
        · rw [if_neg h3]; exact mul_no a b w (by omega) hpos _ rfl q0 q1 (by have := fun h => h3 (hle.1 h); omega)
theorem rmul_any (a b : Int) (w : World) : Calls Try.prog 14 #[.int .i64 a, .int .i64 b] w (Tells (mulR a b) w) := by
  unfold mulR
  by_cases h1 : a < 0
  · rw [if_pos (.inl h1)]; exact rmul_neg a b w h1
  · by_cases h2 : b < 0
    · rw [if_pos (.inr h2)]; exact rmul_neg2 a b w (by omega) h2
    · rw [if_neg (by omega)]
      by_cases h0 : a = 0
      · subst h0
        rw [if_pos (by rw [Int.zero_mul]; decide), Int.zero_mul]; exact rmul_zero b w (by omega)
      · have hpos : 0 < a := by omega
        obtain ⟨q0, q1⟩ := ediv_range hpos
        have hle := Int.le_ediv_iff_mul_le (a := b) (b := 9223372036854775807) hpos
        rw [Int.mul_comm b a] at hle
        have hn := Int.mul_nonneg (show 0 ≤ a by omega) (show 0 ≤ b by omega)
        by_cases h3 : a * b ≤ 9223372036854775807
        · rw [if_pos h3]; exact rmul_yes a b w hpos (by omega) _ rfl q0 q1 (hle.2 h3) _ rfl hn h3
        · rw [if_neg h3]; exact rmul_no a b w hpos (by omega) _ rfl q0 q1 (by have := fun h => h3 (hle.1 h); omega)
theorem walk (a b : Int) (w : World) (wa : (Lit.int .i64 a).wf = true) (wb : (Lit.int .i64 b).wf = true) :
    Calls Try.prog 4 #[.int .i64 a, .int .i64 b] w fun e w' => e = .returned (.bool true) ∧ Below w.heap.size w w' := by
  have ha := wf_i64 wa
  have hb := wf_i64 wb
  clear wa wb
  generalize hr : addR a b = r
  generalize hs : mulR a b = s
  have h1 := fun w => add_any a b ha.2 hb.2 w
  have h2 := fun w => radd_any a b ha.2 hb.2 w
  have h3 := fun w => mul_any a b w
  have h4 := fun w => rmul_any a b w
  rw [hr] at h1 h2
  rw [hs] at h3 h4
  obtain ⟨r1, r2⟩ := r
  obtain ⟨s1, s2⟩ := s
  clear hr hs ha hb
  have H1 := Aside0.mk h1
  have H2 := Aside0.mk h2
  have H3 := Aside0.mk h3
  have H4 := Aside0.mk h4
  clear h1 h2 h3 h4
  go_enter Try.func4, Try.ntmps4
  go_wp2_with (first | (go_at_call 11; refine (H1.out _).mono ?_; rintro e w' ⟨rfl, ⟨nd, rfl⟩⟩) | (go_at_call 12; refine (H2.out _).mono ?_; rintro e w' ⟨rfl, ⟨nd, rfl⟩⟩) | (go_at_call 13; refine (H3.out _).mono ?_; rintro e w' ⟨rfl, ⟨nd, rfl⟩⟩) | (go_at_call 14; refine (H4.out _).mono ?_; rintro e w' ⟨rfl, ⟨nd, rfl⟩⟩))
  go_ret
  exact ⟨by simp, by repeat (first | exact Below.refl _ _ | apply pw_below_drewN)⟩
end Go.Proofs.Ythmcibahdbglnaa.Sums
