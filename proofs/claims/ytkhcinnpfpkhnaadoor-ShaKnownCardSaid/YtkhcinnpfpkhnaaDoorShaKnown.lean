/- hexa, ShaKnown: their walks. -/
import Derived.Test.YtkhcinnpfpkhnaaDoorShaLaws
import Derived.Deep.RegionLaw
import Derived.IntWalk
set_option linter.unusedVariables false
set_option linter.unusedSimpArgs false
namespace Go.Proofs.YtkhcinnpfpkhnaaDoor.ShaKnown
open Go.RowKit Go.Proofs.YtkhcinnpfpkhnaaDoor.Base Go.Proofs.YtkhcinnpfpkhnaaDoor.ShaPlain Go.Proofs.YtkhcinnpfpkhnaaDoor.Mem Go.Proofs.YtkhcinnpfpkhnaaDoor.Buf Go.Proofs.YtkhcinnpfpkhnaaDoor.ShaTake Go.Proofs.YtkhcinnpfpkhnaaDoor.ShaNew Go.Proofs.YtkhcinnpfpkhnaaDoor.ShaDig Go.Proofs.YtkhcinnpfpkhnaaDoor.ShaSum Go.Proofs.YtkhcinnpfpkhnaaDoor.ShaLaws

def hd (n : Nat) : Nat := [48, 49, 50, 51, 52, 53, 54, 55, 56, 57, 97, 98, 99, 100, 101, 102].getD n 0
def hexL (l : List Nat) : List Nat := l.flatMap fun b => [hd (b / 16), hd (b % 16)]
def hex (x : ByteArray) : ByteArray := txt (hexL (nbN x))
theorem hd_at (n : Nat) (h : n < 16) : ∀ h2, (((⟨#[48, 49, 50, 51, 52, 53, 54, 55, 56, 57, 97, 98, 99, 100, 101, 102]⟩ : ByteArray)[n]'h2).toNat : Int) = (hd n : Int) := by
  intro h2
  have : n = 0 ∨ n = 1 ∨ n = 2 ∨ n = 3 ∨ n = 4 ∨ n = 5 ∨ n = 6 ∨ n = 7 ∨ n = 8 ∨ n = 9 ∨ n = 10 ∨ n = 11 ∨ n = 12 ∨ n = 13 ∨ n = 14 ∨ n = 15 := by omega
  rcases this with rfl | rfl | rfl | rfl | rfl | rfl | rfl | rfl | rfl | rfl | rfl | rfl | rfl | rfl | rfl | rfl <;> rfl
theorem hd_lt (n : Nat) : hd n < 256 := by
  unfold hd
  rw [List.getD_eq_getElem?_getD]
  by_cases h : n < 16
  · have : n = 0 ∨ n = 1 ∨ n = 2 ∨ n = 3 ∨ n = 4 ∨ n = 5 ∨ n = 6 ∨ n = 7 ∨ n = 8 ∨ n = 9 ∨ n = 10 ∨ n = 11 ∨ n = 12 ∨ n = 13 ∨ n = 14 ∨ n = 15 := by omega
    rcases this with rfl | rfl | rfl | rfl | rfl | rfl | rfl | rfl | rfl | rfl | rfl | rfl | rfl | rfl | rfl | rfl <;> decide
  · rw [List.getElem?_eq_none (by simp; omega)]; decide
theorem hexL_byte (l : List Nat) : ∀ x ∈ hexL l, x < 256 := by
  intro x hx
  simp only [hexL, List.mem_flatMap, List.mem_cons, List.not_mem_nil, or_false] at hx
  obtain ⟨b, _, rfl | rfl⟩ := hx <;> exact hd_lt _
theorem hexL_length (l : List Nat) : (hexL l).length = 2 * l.length := by
  induction l with
  | nil => rfl
  | cons b l ih => rw [hexL, List.flatMap_cons, List.length_append]; show 2 + (hexL l).length = _; rw [ih, List.length_cons]; omega
theorem hexL_snoc (l : List Nat) (b : Nat) : hexL (l ++ [b]) = hexL l ++ [hd (b / 16), hd (b % 16)] := by simp [hexL]
theorem cell_new2 (w : World) (t : TypeId) (x0 x1 : Int) (y0 y1 : Nat) (h0 : (y0 : Int) = x0) (h1 : (y1 : Int) = x1) :
    ∀ j, j < 2 → (w.alloc (.cells #[.int .u8 x0, .int .u8 x1] t)).cell? ((⟨w.heap.size, 0, none⟩ : Addr).add j) = some (.int .u8 (([y0, y1].getD j 0 : Nat) : Int)) := by
  intro j hj
  rw [Arr.add_plain, (Row.new w _ t).cell, ← h0, ← h1, Nat.zero_add]
  rcases (show j = 0 ∨ j = 1 by omega) with rfl | rfl <;> rfl
set_option maxHeartbeats 2000000 in
set_option maxRecDepth 100000 in
theorem hexa_calls (x : ByteArray) (hx : x.size ≤ 1000000000000) (hne : x.size ≠ 0) (w : World) : Calls Tryd.prog 27 #[.string x] w (Gives (hex x) w) := by
  have HL := Lib.hid (nbN_length x)
  go_enter Tryd.func27, Tryd.ntmps27
  go_wp2_with fail
  go_loopw [3, 4] (fun s3 s4 wx => ∃ i : Nat, i ≤ x.size ∧ s4 = .int .i64 i ∧ Buf wx w.heap.size s3 (hexL ((nbN x).take i)) ∧ Below w.heap.size w wx) (fun _ s4 _ => x.size - (intOf s4).toNat)
  case atStart => exact ⟨0, by omega, rfl, Buf.nil _ _, Below.refl _ _⟩
  case round =>
    obtain ⟨i, hi, rfl, hb, hbl⟩ := hrel
    have hwl := hbl.size
    by_cases hlt : i < x.size
    · have hlt' : (i : Int) < (x.size : Int) := by omega
      have hst := nbN_at x i hlt
      have hu := (x[i]'hlt).toNat_lt
      obtain ⟨v, hv⟩ : ∃ v : Nat, (x[i]'hlt).toNat = v := ⟨_, rfl⟩
      obtain ⟨p, hp⟩ : ∃ p : Nat, v / 16 = p := ⟨_, rfl⟩
      obtain ⟨q, hq⟩ : ∃ q : Nat, v % 16 = q := ⟨_, rfl⟩
      have hx1 := hd_at p (by omega)
      have hx2 := hd_at q (by omega)
      have hp1 : (p : Int) < 16 := by omega
      have hq1 : (q : Int) < 16 := by omega
      have hw1 : IntKind.u8.wrap ((v : Int) / 16) = (p : Int) := by rw [IntWalk.u8_in _ (by omega)]; omega
      have hw2 : Int.tmod (v : Int) 16 = (q : Int) := by rw [Int.tmod_eq_emod_of_nonneg (by omega)]; omega
      rw [hv] at hst
      have HST : Hid (hexL ((nbN x).take (i + 1)) = hexL ((nbN x).take i) ++ [hd p, hd q]) := Lib.hid (by rw [hst, hexL_snoc, hp, hq])
      have HB := Lib.hid hb
      have HBL := Lib.hid hbl
      have HLL : Hid ((hexL ((nbN x).take i)).length ≤ 2 * x.size) := Lib.hid (by rw [hexL_length, List.length_take]; have := HL.out; omega)
      clear hst hb hbl hp hq
      go_wp2_with fail
      go_region_law (first | (refine step_buf rfl (.tmp 11) (.tmp 22) rfl w.heap.size _ _ (by simp [Act.eval, Act.put]) (HB.out.drew.alloc _) ⟨wr.heap.size, 0, none⟩ 2 2 [hd p, hd q] (by simp [Act.eval, Act.put]) rfl (cell_new2 wr.drew _ _ _ _ _ rfl rfl) (by have := HLL.out; omega) (by simp; omega) ?_); intro v' w' hbuf' hbl')
      all_goals
        have HF : Hid (Buf w' w.heap.size v' (hexL ((nbN x).take (i + 1))) ∧ Below w.heap.size w w') := Lib.hid ⟨by rw [HST.out]; exact hbuf', ((HBL.out.drew).alloc hwl _).trans hbl'⟩
        clear hbuf' hbl' hw1 hw2 hx1 hx2 hv
        go_wp2
        go_roundw
        case rel => exact ⟨i + 1, by omega, by go_num, HF.out⟩
        case measure => simp [intOf]; omega
    · have hix : i = x.size := by omega
      have hlt' : ¬ (i : Int) < (x.size : Int) := by omega
      rw [hix, List.take_of_length_le (by rw [HL.out]; exact Nat.le_refl _)] at hb
      obtain ⟨g2, cap2, rfl, hcl⟩ := hb.text (by intro h; have := congrArg List.length h; rw [hexL_length, HL.out] at this; simp at this; omega)
      have hcv := run_convert_bytes_arg (P := Tryd.prog) wr 57 5 Tryd.underlying57 Tryd.underlying5 g2 0 (hexL (nbN x)).length cap2 ((hexL (nbN x)).map fun x : Nat => (x : Int)) (by rw [List.length_map]) hcl 9 Tryd.underlying9
      have HV : Hid (strOfNums ((hexL (nbN x)).map fun x : Nat => (x : Int)) = hex x) := Lib.hid rfl
      generalize strOfNums ((hexL (nbN x)).map fun x : Nat => (x : Int)) = st at *
      clear hb hcl hix
      go_wp2
      go_ret
      exact ⟨by rw [HV.out]; rfl, hbl⟩
end Go.Proofs.YtkhcinnpfpkhnaaDoor.ShaKnown
