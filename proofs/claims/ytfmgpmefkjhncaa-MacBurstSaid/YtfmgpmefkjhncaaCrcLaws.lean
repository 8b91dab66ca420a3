/- MacCrc, MacOn: their walks. -/
import Derived.Test.YtfmgpmefkjhncaaCrc
set_option linter.unusedVariables false
namespace Go.Proofs.Ytfmgpmefkjhncaa.CrcLaws
open Go.RowKit Go.Proofs.Ytfmgpmefkjhncaa.Base Go.Proofs.Ytfmgpmefkjhncaa.CrcPlain Go.Proofs.Ytfmgpmefkjhncaa.Crc

theorem below_then {B : Nat} {w w1 w2 : World} (h : Below B w w1) (hB : B ≤ w1.heap.size) (k : Below w1.heap.size w1 w2) : Below B w w2 :=
  h.trans ⟨k.os, k.tape, k.output, k.size, fun i hi => k.block i (Nat.lt_of_lt_of_le hi hB)⟩
theorem crc_walk (crc : Int) (b : ByteArray) (w : World) (w0 : (Lit.int .u32 crc).wf = true) (w1 : b.size ≤ 140737488351232) :
    Calls Try.prog 4 #[.int .u32 crc, .string b] w fun e w' => e = .returned (.bool true) ∧ Below w.heap.size w w' := by
  obtain ⟨c0, c1⟩ := wf_u32 w0
  obtain ⟨n, rfl⟩ := Int.eq_ofNat_of_zero_le c0
  have h1 := fun w => crc_calls b (by omega) w
  have h2 := fun w => rcrc_calls b (by omega) w
  have h3 := fun w => on_calls n (by omega) b (by omega) w
  have h4 := fun w => ron_calls n (by omega) b (by omega) w
  generalize crcOn 0 (nbN b) = p at *
  generalize crcOn n (nbN b) = q at *
  have H1 := Lib.hid h1
  have H2 := Lib.hid h2
  have H3 := Lib.hid h3
  have H4 := Lib.hid h4
  clear h1 h2 h3 h4 c0 c1 w0 w1
  go_enter Try.func4, Try.ntmps4
  go_wp2_with fail
  refine (H1.out _).mono ?_; rintro e w1 ⟨rfl, b1⟩
  go_wp2_with fail
  refine (H2.out _).mono ?_; rintro e w2 ⟨rfl, b2⟩
  go_wp2_with fail
  refine (H3.out _).mono ?_; rintro e w3 ⟨rfl, b3⟩
  go_wp2_with fail
  refine (H4.out _).mono ?_; rintro e w4 ⟨rfl, b4⟩
  go_wp2_with fail
  go_ret
  have k2 := below_then b1 b1.size b2
  have k3 := below_then k2 k2.size b3
  exact ⟨by simp, below_then k3 k3.size b4⟩
theorem nbN_append (a b : ByteArray) : nbN (a ++ b) = nbN a ++ nbN b := by simp [nbN, ByteArray.data_append]
def nine : ByteArray := ⟨#[49, 50, 51, 52, 53, 54, 55, 56, 57]⟩
theorem nine_crc : crcOn 0 (nbN nine) = 3421780262 := by decide +kernel
theorem on_walk (a b : ByteArray) (w : World) (w0 : a.size ≤ 140737488351232) (w1 : b.size ≤ 140737488351232) :
    Calls Try.prog 5 #[.string a, .string b] w fun e w' => e = .returned (.bool true) ∧ Below w.heap.size w w' := by
  have hsum : a.size + b.size ≤ 9223372036854775807 := by omega
  have h1 := fun w => crc_calls (a ++ b) (by rw [ByteArray.size_append]; omega) w
  have h2 := fun w => crc_calls a (by omega) w
  have hl : crcOn 0 (nbN a) < 4294967296 := crcOn_lt (by decide) _ (fun c h => nbN_byte h)
  have h3 := fun w => on_calls (crcOn 0 (nbN a)) hl b (by omega) w
  have h4 : ∀ w, Calls Try.prog 10 #[.int .u32 0, .string (a ++ b)] w (Sum (crcOn 0 (nbN (a ++ b))) w) := fun w => on_calls 0 (by decide) (a ++ b) (by rw [ByteArray.size_append]; omega) w
  have h5 : ∀ w, Calls Try.prog 8 #[.string nine] w (Sum 3421780262 w) := fun w => by
    have := crc_calls nine (by decide) w
    rwa [nine_crc] at this
  rw [crcOn_append, ← nbN_append] at h3
  generalize crcOn 0 (nbN (a ++ b)) = p at *
  generalize crcOn 0 (nbN a) = q at *
  have H1 := Lib.hid h1
  have H2 := Lib.hid h2
  have H3 := Lib.hid h3
  have H4 := Lib.hid h4
  have H5 := Lib.hid h5
  clear h1 h2 h3 h4 h5 hl w0 w1
  go_enter Try.func5, Try.ntmps5
  go_wp2_with fail
  refine (H1.out _).mono ?_; rintro e w1 ⟨rfl, b1⟩
  go_wp2_with fail
  refine (H2.out _).mono ?_; rintro e w2 ⟨rfl, b2⟩
  go_wp2_with fail
  refine (H3.out _).mono ?_; rintro e w3 ⟨rfl, b3⟩
  go_wp2_with fail
  refine (H4.out _).mono ?_; rintro e w4 ⟨rfl, b4⟩
  go_wp2_with fail
  refine (H5.out _).mono ?_; rintro e w5 ⟨rfl, b5⟩
  go_wp2_with fail
  go_ret
  have k2 := below_then b1 b1.size b2
  have k3 := below_then k2 k2.size b3
  have k4 := below_then k3 k3.size b4
  exact ⟨by simp, below_then k4 k4.size b5⟩
end Go.Proofs.Ytfmgpmefkjhncaa.CrcLaws
