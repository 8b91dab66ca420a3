/- mac.Same, mac.KeyID and the document's KeyID: their walks. -/
import Derived.Test.YtkhcinnpfpkhnaaDoorMacRef
set_option linter.unusedVariables false
set_option linter.unusedSimpArgs false
namespace Go.Proofs.YtkhcinnpfpkhnaaDoor.MacSame
open Go.RowKit Go.Lib Go.Proofs.YtkhcinnpfpkhnaaDoor.Base Go.Proofs.YtkhcinnpfpkhnaaDoor.ShaPlain Go.Proofs.YtkhcinnpfpkhnaaDoor.ShaRot Go.Proofs.YtkhcinnpfpkhnaaDoor.Arr Go.Proofs.YtkhcinnpfpkhnaaDoor.Mem Go.Proofs.YtkhcinnpfpkhnaaDoor.Buf Go.Proofs.YtkhcinnpfpkhnaaDoor.ShaKit Go.Proofs.YtkhcinnpfpkhnaaDoor.ShaDig Go.Proofs.YtkhcinnpfpkhnaaDoor.Mac Go.Proofs.YtkhcinnpfpkhnaaDoor.MacRef

theorem or8 (a b : Nat) (ha : a < 256) (hb : b < 256) : Go.bits .or .u8 (a : Int) (b : Int) = ((a ||| b : Nat) : Int) := u8_or_nat a b ha hb
theorem or_zero (a b : Nat) : a ||| b = 0 ↔ a = 0 ∧ b = 0 := Nat.or_eq_zero_iff
theorem xor_zero (a b : Nat) : a ^^^ b = 0 ↔ a = b :=
  ⟨fun h => by have := congrArg (fun z => a ^^^ z) h; simpa [← Nat.xor_assoc] using this.symm, fun h => by rw [h, Nat.xor_self]⟩
theorem unlike_step (a b : ByteArray) (i u : Nat) (ha : i < a.size) (hb : i < b.size) (h : u = 0 ↔ (nbN a).take i = (nbN b).take i) :
    (u ||| ((a[i]'ha).toNat ^^^ (b[i]'hb).toNat)) = 0 ↔ (nbN a).take (i + 1) = (nbN b).take (i + 1) := by
  rw [nbN_at a i ha, nbN_at b i hb, or_zero, xor_zero, h]
  constructor
  · rintro ⟨h1, h2⟩
    rw [h1, h2]
  · intro e
    have := List.append_inj e (by rw [List.length_take, List.length_take, nbN_length, nbN_length]; omega)
    exact ⟨this.1, by simpa using this.2⟩
theorem xor_lt8 (a b : UInt8) : a.toNat ^^^ b.toNat < 256 := Nat.xor_lt_two_pow (n := 8) a.toNat_lt b.toNat_lt
set_option maxHeartbeats 1000000 in
theorem same_calls (a b : ByteArray) (ha : a.size ≤ 140737488355200) (hb : b.size ≤ 140737488355200) (w : World) (r : Bool) (hr : r = true ↔ a = b) :
    Calls Tryd.prog 34 #[.string a, .string b] w (fun e w' => e = .returned (.bool r) ∧ Below w.heap.size w w') := by
  by_cases hs : a.size = b.size
  · have hne : ((a.size : Int) != (b.size : Int)) = false := by rw [bne_eq_false_iff_eq]; omega
    have HS := Lib.hid hs
    have HR := Lib.hid hr
    have HEQ : Hid (r = decide ((nbN a).take a.size = (nbN b).take a.size)) := Lib.hid (by
      rw [List.take_of_length_le (by rw [nbN_length]; exact Nat.le_refl _), List.take_of_length_le (by rw [nbN_length, hs]; exact Nat.le_refl _)]
      rw [Bool.eq_iff_iff, hr, decide_eq_true_iff]
      exact ⟨fun e => by rw [e], fun e => nbN_inj e⟩)
    clear hs hr
    go_enter Tryd.func34, Tryd.ntmps34
    go_wp2_with fail
    go_loopw [5, 14] (fun s5 s14 wx => ∃ i u : Nat, i ≤ a.size ∧ u < 256 ∧ s14 = .int .i64 i ∧ s5 = .int .u8 u ∧ Hid (u = 0 ↔ (nbN a).take i = (nbN b).take i) ∧ Below w.heap.size w wx) (fun _ s14 _ => a.size - (intOf s14).toNat)
    case atStart => exact ⟨0, 0, by omega, by decide, rfl, rfl, Lib.hid (by simp), Below.refl _ _⟩
    case round =>
      obtain ⟨i, u, hi, hu, rfl, rfl, hz, hbl⟩ := hrel
      by_cases hlt : i < a.size
      · have hlt' : (i : Int) < (a.size : Int) := by omega
        have hlb : i < b.size := by rw [← HS.out]; exact hlt
        have hlb' : (i : Int) < (b.size : Int) := by omega
        have hxr := xor8 ((a[i]'hlt).toNat) ((b[i]'hlb).toNat) ((a[i]'hlt).toNat_lt) ((b[i]'hlb).toNat_lt)
        have hor := or8 u ((a[i]'hlt).toNat ^^^ (b[i]'hlb).toNat) hu (xor_lt8 _ _)
        have HZ := Lib.hid (unlike_step a b i u hlt hlb hz.out)
        have HU : Hid (u ||| ((a[i]'hlt).toNat ^^^ (b[i]'hlb).toNat) < 256) := Lib.hid (Nat.or_lt_two_pow (n := 8) hu (xor_lt8 _ _))
        go_wp2_with fail
        go_quiet (fail)
        go_wp2
        go_roundw
        case rel => exact ⟨i + 1, _, by omega, HU.out, by go_num, rfl, HZ, ((Grew.of_below hbl none).drewN _).below⟩
        case measure => simp [intOf]; omega
      · have hia : i = a.size := by omega
        have hlt' : ¬ (i : Int) < (a.size : Int) := by omega
        rw [hia] at hz
        have HF : Hid (r = ((u : Int) == 0)) := Lib.hid (by
          rw [HEQ.out, Bool.eq_iff_iff, decide_eq_true_iff, ← hz.out, beq_iff_eq]
          omega)
        clear hia
        go_wp2
        go_ret
        exact ⟨by rw [HF.out]; rfl, hbl⟩
  · have hne : ((a.size : Int) != (b.size : Int)) = true := by rw [bne_iff_ne]; omega
    have HR : Hid (r = false) := Lib.hid (by
      rw [← Bool.not_eq_true, hr]
      intro e
      exact hs (by rw [e]))
    clear hr
    go_enter Tryd.func34, Tryd.ntmps34
    go_wp2
    go_ret
    exact ⟨by rw [HR.out]; rfl, Below.refl _ _⟩
/-- The four bytes that tell a key. -/
def keyid (name secret : ByteArray) : ByteArray := (dig (name ++ ⟨#[10, 2]⟩ ++ mac secret ⟨#[97, 110, 110, 97, 108, 115, 32, 107, 101, 121]⟩)).extract 0 4
set_option maxHeartbeats 1000000 in
theorem keyID_calls (name secret : ByteArray) (hn : name.size ≤ 140737488351232) (hs : secret.size ≤ 140737488351232) (w : World) (hT : Tab w) :
    Calls Tryd.prog 32 #[.string name, .string secret] w (Gives (keyid name secret) w) := by
  have hm := mac_size secret ⟨#[97, 110, 110, 97, 108, 115, 32, 107, 101, 121]⟩
  have hp : (name ++ ⟨#[10, 2]⟩).size = name.size + 2 := size_app _ _
  have hp2 := Lib.hid (size_app (name ++ ⟨#[10, 2]⟩) (mac secret ⟨#[97, 110, 110, 97, 108, 115, 32, 107, 101, 121]⟩))
  have hsl := slice_h (P := Tryd.prog) (dig (name ++ ⟨#[10, 2]⟩ ++ mac secret ⟨#[97, 110, 110, 97, 108, 115, 32, 107, 101, 121]⟩)) 9 Tryd.underlying9 4 (by rw [dig_size]; decide)
  have hsl : ∀ w, (Instr.slice 9 (.string (dig (name ++ ⟨#[10, 2]⟩ ++ mac secret ⟨#[97, 110, 110, 97, 108, 115, 32, 107, 101, 121]⟩))) none (some (.int .i64 4)) none).run Tryd.prog w = .ok (.string (keyid name secret)) w := hsl
  have HM := Lib.hid (macSum_calls secret ⟨#[97, 110, 110, 97, 108, 115, 32, 107, 101, 121]⟩ (by omega) (by decide) w hT)
  have HS := Lib.hid (fun W (hb : Below w.heap.size w W) => shaSum_calls (name ++ ⟨#[10, 2]⟩ ++ mac secret ⟨#[97, 110, 110, 97, 108, 115, 32, 107, 101, 121]⟩) (by have := hp2.out; omega) W (hT.below hb))
  have hd := dig_size (name ++ ⟨#[10, 2]⟩ ++ mac secret ⟨#[97, 110, 110, 97, 108, 115, 32, 107, 101, 121]⟩)
  generalize mac secret ⟨#[97, 110, 110, 97, 108, 115, 32, 107, 101, 121]⟩ = m at *
  clear hT
  go_enter Tryd.func32, Tryd.ntmps32
  go_wp2_with fail
  refine HM.out.mono ?_; rintro e W1 ⟨rfl, B1⟩
  have hz1 := B1.size
  go_wp2_with fail
  refine (HS.out W1 B1).mono ?_; rintro e W2 ⟨rfl, C2⟩
  have B2 := B1.trans (C2.mono hz1)
  clear C2 B1
  go_wp2
  go_ret
  exact ⟨rfl, B2⟩
set_option maxHeartbeats 1000000 in
theorem refKeyID_calls (name secret : ByteArray) (hn : name.size ≤ 140737488351232) (hs : secret.size ≤ 140737488351232) (w : World) (hT : RTab w) :
    Calls Tryd.prog 33 #[.string name, .string secret] w (Gives (keyid name secret) w) := by
  have hm := mac_size secret ⟨#[97, 110, 110, 97, 108, 115, 32, 107, 101, 121]⟩
  have hp : (name ++ ⟨#[10, 2]⟩).size = name.size + 2 := size_app _ _
  have hp2 := Lib.hid (size_app (name ++ ⟨#[10, 2]⟩) (mac secret ⟨#[97, 110, 110, 97, 108, 115, 32, 107, 101, 121]⟩))
  have hsl := slice_h (P := Tryd.prog) (dig (name ++ ⟨#[10, 2]⟩ ++ mac secret ⟨#[97, 110, 110, 97, 108, 115, 32, 107, 101, 121]⟩)) 9 Tryd.underlying9 4 (by rw [dig_size]; decide)
  have hsl : ∀ w, (Instr.slice 9 (.string (dig (name ++ ⟨#[10, 2]⟩ ++ mac secret ⟨#[97, 110, 110, 97, 108, 115, 32, 107, 101, 121]⟩))) none (some (.int .i64 4)) none).run Tryd.prog w = .ok (.string (keyid name secret)) w := hsl
  have HM := Lib.hid (refMac_calls secret ⟨#[97, 110, 110, 97, 108, 115, 32, 107, 101, 121]⟩ (by omega) (by decide) w hT)
  have HS := Lib.hid (fun W (hb : Below w.heap.size w W) => refSum_calls (name ++ ⟨#[10, 2]⟩ ++ mac secret ⟨#[97, 110, 110, 97, 108, 115, 32, 107, 101, 121]⟩) (by have := hp2.out; omega) W (hT.below hb))
  have hd := dig_size (name ++ ⟨#[10, 2]⟩ ++ mac secret ⟨#[97, 110, 110, 97, 108, 115, 32, 107, 101, 121]⟩)
  generalize mac secret ⟨#[97, 110, 110, 97, 108, 115, 32, 107, 101, 121]⟩ = m at *
  clear hT
  go_enter Tryd.func33, Tryd.ntmps33
  go_wp2_with fail
  refine HM.out.mono ?_; rintro e W1 ⟨rfl, B1⟩
  have hz1 := B1.size
  go_wp2_with fail
  refine (HS.out W1 B1).mono ?_; rintro e W2 ⟨rfl, C2⟩
  have B2 := B1.trans (C2.mono hz1)
  clear C2 B1
  go_wp2
  go_ret
  exact ⟨rfl, B2⟩
end Go.Proofs.YtkhcinnpfpkhnaaDoor.MacSame
