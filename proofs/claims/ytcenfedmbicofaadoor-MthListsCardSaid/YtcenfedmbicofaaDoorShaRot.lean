/- sha.turned, sha.number and the document's rotr and word: their walks. -/
import Derived.Test.YtcenfedmbicofaaDoorProg
import Derived.Test.YtcenfedmbicofaaDoorShaPlain
import Derived.WalkKit
import Derived.KernelRfl
import Derived.Lib.Hide
import Derived.Deep.LoopGhost
import Derived.Below
import Derived.Outline
import Derived.RegionTactic
import Derived.BigRegion
import Derived.BigQuiet
set_option linter.unusedVariables false
set_option linter.unusedSimpArgs false
namespace Go.Proofs.YtcenfedmbicofaaDoor.ShaRot
open Go.RowKit Go.Proofs.YtcenfedmbicofaaDoor.Base Go.Proofs.YtcenfedmbicofaaDoor.ShaPlain

/-- The answer is this word; nothing is written. -/
def Word (n : Nat) (w : World) (e : Ending) (w' : World) : Prop := e = .returned (.int .u32 (n : Int)) ∧ w' = w
theorem orw (a b : Nat) (ha : a < 4294967296) (hb : b < 4294967296) : Go.bits .or .u32 (a : Int) (b : Int) = ((a ||| b : Nat) : Int) := u32_or_nat a b ha hb
set_option maxHeartbeats 1000000 in
theorem left_calls (n x : Nat) (hn : 1 ≤ n) (hn2 : n ≤ 31) (hx : x < 4294967296) (w : World) :
    Calls Tryd.prog 95 #[.int .u32 (x : Int), .int .i64 (-(n : Int))] w (Word (rot n x) w) := by
  obtain ⟨c, hc⟩ : ∃ c, c = 32 - n := ⟨_, rfl⟩
  have ha : Go.bits .and .u64 (IntKind.u64.wrap (-(n : Int))) 31 = (c : Int) := by
    have := u64_and_nat (18446744073709551616 - n) 31 (by omega) (by decide)
    rw [IntKind.wrap_u64, show (-(n : Int)) % 18446744073709551616 = ((18446744073709551616 - n : Nat) : Int) by omega]
    rw [show (((31 : Nat) : Int)) = 31 from rfl] at this
    rw [this, show (18446744073709551616 - n) &&& 31 = (18446744073709551616 - n) % 2 ^ 5 from Nat.and_two_pow_sub_one_eq_mod _ 5]
    omega
  have HR : Hid (Go.bits .or .u32 ((x : Int) * 2 ^ (32 - n) % 4294967296) ((x : Int) / 2 ^ (32 - (32 - n))) = ((rot n x : Nat) : Int)) := Lib.hid (by
    have := orw (x * 2 ^ (32 - n) % 4294967296) (x / 2 ^ n) (Nat.mod_lt _ (by decide)) (Nat.lt_of_le_of_lt (Nat.div_le_self _ _) hx)
    rw [Nat.or_comm] at this
    rw [show 32 - (32 - n) = n by omega]
    simpa [rot] using this)
  go_enter Tryd.func95, Tryd.ntmps95
  go_wp2
  go_ret
  exact ⟨congrArg (fun z => Ending.returned (.int .u32 z)) HR.out, rfl⟩
theorem turned_calls (n x : Nat) (hn : 1 ≤ n) (hn2 : n ≤ 31) (hx : x < 4294967296) (w : World) :
    Calls Tryd.prog 92 #[.int .u32 (x : Int), .int .i64 (n : Int)] w (Word (rot n x) w) := by
  have H := Lib.hid (fun w => left_calls n x hn hn2 hx w)
  go_enter Tryd.func92, Tryd.ntmps92
  go_wp2_with fail
  refine (H.out _).mono ?_; rintro e w' ⟨rfl, rfl⟩
  go_wp2_with fail
  go_ret
  exact ⟨rfl, rfl⟩
set_option maxHeartbeats 1000000 in
theorem number_calls (s : ByteArray) (hs : s.size ≤ 1000000000000000) (w : World) : Calls Tryd.prog 94 #[.string s] w (Word (num (nbN s)) w) := by
  go_enter Tryd.func94, Tryd.ntmps94
  go_wp2
  go_loop [3, 7] (fun a i => ∃ (v k : Nat), k ≤ s.size ∧ i = .int .i64 k ∧ a = .int .u32 v ∧ v < 4294967296 ∧ Hid (v = num ((nbN s).take k))) (fun _ i => s.size - (intOf i).toNat)
  case atStart => exact ⟨0, 0, by omega, rfl, rfl, by omega, Lib.hid rfl⟩
  case round =>
    obtain ⟨v, k, hk, rfl, rfl, hv, hq⟩ := hrel
    by_cases hlt : k < s.size
    · have hn := nbN_at s k hlt
      have hx256 := (s[k]'hlt).toNat_lt
      obtain ⟨x, hx⟩ : ∃ x : Nat, (s[k]'hlt).toNat = x := ⟨_, rfl⟩
      rw [hx] at hn hx256
      have ho := orw (v * 256 % 4294967296) x (Nat.mod_lt _ (by decide)) (by omega)
      rw [show ((v * 256 % 4294967296 : Nat) : Int) = (v : Int) * 256 % 4294967296 by omega] at ho
      have HQ : Hid ((v * 256 % 4294967296 ||| x) = num ((nbN s).take (k + 1))) := Lib.hid (by rw [hn, num_snoc, ← hq.out])
      have hl : (v * 256 % 4294967296 ||| x) < 4294967296 := or_lt (k := 32) (Nat.mod_lt _ (by decide)) (by omega)
      generalize (v * 256 % 4294967296 ||| x) = u at *
      clear hn hq
      have hlt' : (k : Int) < s.size := by omega
      go_wp2
      go_round
      case rel => exact ⟨u, k + 1, by omega, by go_num, rfl, hl, HQ⟩
      case measure => simp [intOf]; omega
    · obtain rfl : k = s.size := by omega
      have HQ : Hid (v = num (nbN s)) := Lib.hid (by have := hq.out; rwa [List.take_of_length_le (by rw [nbN_length]; omega)] at this)
      clear hq
      go_wp2
      go_ret
      exact ⟨by rw [← HQ.out]; rfl, rfl⟩
set_option maxHeartbeats 1000000 in
theorem rotr_calls (n x : Nat) (hn : 1 ≤ n) (hn2 : n ≤ 31) (hx : x < 4294967296) (w : World) :
    Calls Tryd.prog 81 #[.int .u32 (x : Int), .int .u64 (n : Int)] w (Word (rot n x) w) := by
  have HR : Hid (Go.bits .or .u32 ((x : Int) / 2 ^ n) ((x : Int) * 2 ^ (32 - n) % 4294967296) = ((rot n x : Nat) : Int)) := Lib.hid (by
    have := orw (x / 2 ^ n) (x * 2 ^ (32 - n) % 4294967296) (Nat.lt_of_le_of_lt (Nat.div_le_self _ _) hx) (Nat.mod_lt _ (by decide))
    simpa [rot] using this)
  go_enter Tryd.func81, Tryd.ntmps81
  go_wp2
  go_ret
  exact ⟨congrArg (fun z => Ending.returned (.int .u32 z)) HR.out, rfl⟩
set_option maxHeartbeats 2000000 in
theorem word_calls (g o p len cap a b c d : Nat) (ha : a < 256) (hb : b < 256) (hc : c < 256) (hd : d < 256) (hp : p + 3 < len) (hlen : len ≤ 1000000000000000000) (w : World)
    (h0 : w.cell? ⟨g, o + p, none⟩ = some (.int .u8 (a : Int))) (h1 : w.cell? ⟨g, o + (p + 1), none⟩ = some (.int .u8 (b : Int)))
    (h2 : w.cell? ⟨g, o + (p + 2), none⟩ = some (.int .u8 (c : Int))) (h3 : w.cell? ⟨g, o + (p + 3), none⟩ = some (.int .u8 (d : Int))) :
    Calls Tryd.prog 90 #[.slice (some ⟨g, o, none⟩) len cap, .int .i64 (p : Int)] w (fun e w' => e = .returned (.int .u32 ((num [a, b, c, d] : Nat) : Int)) ∧ ∃ m, w' = w.drewN m) := by
  go_enter Tryd.func90, Tryd.ntmps90
  have HR : Hid (Go.bits .or .u32 (Go.bits .or .u32 (Go.bits .or .u32 ((a : Int) * 16777216) ((b : Int) * 65536)) ((c : Int) * 256)) (d : Int) = ((num [a, b, c, d] : Nat) : Int)) := Lib.hid (by
    rw [num4 a b c d ha hb hc hd, Nat.mod_eq_of_lt (a := a * 16777216) (by omega), Nat.mod_eq_of_lt (a := b * 65536) (by omega), Nat.mod_eq_of_lt (a := c * 256) (by omega)]
    have l1 : (a * 16777216 ||| b * 65536) < 4294967296 := or_lt (k := 32) (by omega) (by omega)
    have l2 : (a * 16777216 ||| b * 65536 ||| c * 256) < 4294967296 := or_lt (k := 32) l1 (by omega)
    have e1 := orw (a * 16777216) (b * 65536) (by omega) (by omega)
    have e2 := orw (a * 16777216 ||| b * 65536) (c * 256) l1 (by omega)
    have e3 := orw (a * 16777216 ||| b * 65536 ||| c * 256) d l2 (by omega)
    rw [show ((a * 16777216 : Nat) : Int) = (a : Int) * 16777216 by omega, show ((b * 65536 : Nat) : Int) = (b : Int) * 65536 by omega] at e1
    rw [show ((c * 256 : Nat) : Int) = (c : Int) * 256 by omega] at e2
    rw [e1, e2, e3])
  go_wp2
  go_quiet (fail)
  go_wp2
  go_ret
  exact ⟨congrArg (fun z => Ending.returned (.int .u32 z)) HR.out, _, rfl⟩
end Go.Proofs.YtcenfedmbicofaaDoor.ShaRot
