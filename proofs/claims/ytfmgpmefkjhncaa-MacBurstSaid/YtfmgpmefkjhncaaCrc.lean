/- mac.table, mac.CrcOn, mac.Crc: their walks. -/
import Derived.Test.YtfmgpmefkjhncaaProg
import Derived.Test.YtfmgpmefkjhncaaBase
import Derived.Test.YtfmgpmefkjhncaaCrcPlain
import Derived.Test.YtfmgpmefkjhncaaArr
import Derived.WalkKit
import Derived.KernelRfl
import Derived.Lib.Hide
import Derived.Deep.WholeRow
import Derived.Deep.LoopGhost
import Derived.Below
import Derived.Outline
set_option linter.unusedVariables false
set_option linter.unusedSimpArgs false
namespace Go.Proofs.Ytfmgpmefkjhncaa.Crc
open Go.RowKit Go.Proofs.Ytfmgpmefkjhncaa.Base Go.Proofs.Ytfmgpmefkjhncaa.CrcPlain Go.Proofs.Ytfmgpmefkjhncaa.Arr

/-- The table's value for each byte. -/
def tv (i : Nat) : Nat := stpN 8 i
/-- The table, its first k places filled. -/
def tabL (k : Nat) : List Value := (List.range 256).map fun j => if j < k then .int .u32 (tv j : Int) else .int .u32 0
def tabA (k : Nat) : Array Value := (tabL k).toArray
theorem tabA_size (k : Nat) : (tabA k).size = 256 := by simp [tabA, tabL]
theorem tabA_zero : tabA 0 = Array.replicate 256 (.int .u32 0) := by
  apply Array.ext
  · simp [tabA, tabL]
  · intro i h1 h2
    simp [tabA, tabL]
theorem tabA_set (k : Nat) (h : k < 256) : (tabA k).setIfInBounds k (.int .u32 (tv k : Int)) = tabA (k + 1) := by
  apply Array.ext
  · simp [tabA, tabL]
  · intro i h1 h2
    rw [Array.getElem_setIfInBounds (by rw [tabA_size]; rw [tabA_size] at h2; exact h2)]
    by_cases e : k = i
    · subst e; simp [tabA, tabL]
    · rw [if_neg e]
      simp only [tabA, tabL, List.getElem_toArray, List.getElem_map, List.getElem_range]
      by_cases h3 : i < k
      · rw [if_pos h3, if_pos (by omega)]
      · rw [if_neg h3, if_neg (by omega)]
theorem tabA_get (k i : Nat) (h : i < 256) : (tabA k)[i]? = some (if i < k then .int .u32 (tv i : Int) else .int .u32 0) := by
  rw [Array.getElem?_eq_getElem (by rw [tabA_size]; exact h)]
  simp [tabA, tabL]
theorem tabA_one (k : Nat) : (tabA k).all (·.oneCell') = true := by
  rw [Array.all_eq_true]
  intro i hi
  simp only [tabA, tabL, List.getElem_toArray, List.getElem_map, List.getElem_range]
  split <;> rfl
theorem info : (Try.prog.info? 33).map (fun i => (i.zero, i.size)) = some (some (.agg (Array.replicate 256 (.int .u32 0))), 256) := by kernel_rfl
theorem and1 (v : Nat) (h : v < 4294967296) : Go.bits .and .u32 (v : Int) 1 = ((v % 2 : Nat) : Int) := by
  have := u32_and_nat v 1 h (by decide)
  rw [nat_mask1] at this
  exact this
theorem xorp (v : Nat) (h : v < 4294967296) : Go.bits .xor .u32 (v : Int) 3988292384 = ((v ^^^ 3988292384 : Nat) : Int) := u32_xor_nat v 3988292384 h (by decide)

def Tab (w : World) (e : Ending) (w' : World) : Prop := e = .returned (.agg (tabA 256)) ∧ Below w.heap.size w w'
set_option maxHeartbeats 4000000 in
set_option maxRecDepth 1000000 in
theorem table_calls (w : World) : Calls Try.prog 14 #[] w (Tab w) := by
  obtain ⟨hz, hi⟩ := zero_of_info info
  have HI := Lib.hid hi
  clear hi
  go_enter Try.func14, Try.ntmps14
  go_wp2
  rw [← tabA_zero]
  go_loopw [5] (fun s5 wx => ∃ k : Nat, k ≤ 256 ∧ s5 = .int .i64 k ∧ wx = (w.alloc (.cells (tabA 0) 33)).alloc (.cells (tabA k) 33)) (fun s5 _ => 256 - (intOf s5).toNat)
  case atStart => exact ⟨0, by omega, rfl, rfl⟩
  case round =>
    obtain ⟨k, hk, rfl, rfl⟩ := hrel
    by_cases hlt : k < 256
    · have hlt' : (k : Int) < 256 := by omega
      go_wp2
      go_loop [3, 10] (fun a b => ∃ (v m : Nat), a = .int .u32 v ∧ b = .int .i64 m ∧ Hid (stpN (8 - m) v = tv k) ∧ v < 4294967296 ∧ m ≤ 8) (fun _ b => 8 - (intOf b).toNat)
      case atStart => exact ⟨k, 0, by go_num, rfl, Lib.hid rfl, by omega, by omega⟩
      case round =>
        obtain ⟨v, m, rfl, rfl, hs, hv, hm⟩ := hrel
        by_cases hm8 : m < 8
        · have ha := and1 v hv
          have hx := xorp (v / 2) (by omega)
          have hst : stpN (8 - m) v = stpN (8 - (m + 1)) (stp v) := by rw [show 8 - m = 8 - (m + 1) + 1 by omega]; rfl
          have hl := stp_lt hv
          rcases Nat.mod_two_eq_zero_or_one v with ho | ho
          · rw [ho] at ha
            have HQ : Hid (stpN (8 - (m + 1)) (v / 2) = tv k) := Lib.hid (by
              have := hs.out; rw [hst] at this; unfold stp at this; rw [if_neg (by omega)] at this; exact this)
            clear hst hs ho hl hx
            have hv2 : v / 2 < 4294967296 := by omega
            go_wp2
            go_round
            case rel => exact ⟨v / 2, m + 1, by go_num, by go_num, HQ, hv2, by omega⟩
            case measure => simp [intOf]; omega
          · rw [ho] at ha
            have hq : stp v = v / 2 ^^^ 3988292384 := by unfold stp; rw [if_pos ho]
            have HQ : Hid (stpN (8 - (m + 1)) (v / 2 ^^^ 3988292384) = tv k) := Lib.hid (by
              have := hs.out; rw [hst, hq] at this; exact this)
            rw [hq] at hl
            rw [show ((v / 2 : Nat) : Int) = (v : Int) / 2 by omega] at hx
            generalize v / 2 ^^^ 3988292384 = z at *
            clear hst hs ho hq
            go_wp2
            go_round
            case rel => exact ⟨z, m + 1, by go_num, by go_num, HQ, hl, by omega⟩
            case measure => simp [intOf]; omega
        · obtain rfl : m = 8 := by omega
          have hvt : v = tv k := hs.out
          subst hvt
          have hset := tabA_set k hlt
          have hsz := tabA_size k
          clear hs
          go_wp2
          go_roundw
          case rel => exact ⟨k + 1, by omega, by go_num, by rw [← hset]⟩
          case measure => simp [intOf]; omega
    · obtain rfl : k = 256 := by omega
      have hsz := tabA_size 256
      go_wp2_with (first | (refine wpList_put_row rfl 33 _ _ rfl w.heap.size rfl (tabA 256) rfl 33 (tabA 0) (heap_alloc2_old w _ _) (by rw [hsz]; exact HI.out) (by rw [hsz]; exact tabA_size 0) (tabA_one _) ?_; rw [setRow_alloc_old _ _ _ _ (by simp), World.setRow_alloc_new]) | refine wpList_load_row rfl 33 _ rfl (w.heap.size + 1) rfl 33 (tabA 256) (0, 0) _ (heap_alloc2_new w _ _) Try.underlying33 rfl (by rw [hsz]; exact HI.out) ?_)
      (try simp only [Exit.inBlock, Exit.then])
      refine bodyPost_ret (v := .agg (tabA 256)) (results_cell_row rfl _ _ w.heap.size 33 (tabA 256) (0, 0) _ rfl (heap_alloc2_old w _ _) Try.underlying33 rfl (by rw [hsz]; exact HI.out)) rfl ⟨rfl, ?_⟩
      exact ((Below.refl _ _).alloc (Nat.le_refl _) _).alloc (by simp) _

/-- The bytes of a text, as numbers. -/
def nbN (s : ByteArray) : List Nat := s.data.toList.map UInt8.toNat
theorem nbN_length (s : ByteArray) : (nbN s).length = s.size := by unfold nbN; rw [List.length_map]; rfl
theorem nbN_byte {s : ByteArray} {c : Nat} (h : c ∈ nbN s) : c < 256 := by
  simp only [nbN, List.mem_map] at h
  obtain ⟨x, _, rfl⟩ := h
  exact x.toNat_lt
theorem nbN_at (s : ByteArray) (i : Nat) (h : i < s.size) : (nbN s).take (i + 1) = (nbN s).take i ++ [(s[i]'h).toNat] := by
  rw [List.take_succ_eq_append_getElem (by rw [nbN_length]; exact h)]
  simp [nbN]
  rfl
theorem not32 (v : Nat) (h : v < 4294967296) : Go.bits .xor .u32 IntKind.u32.max (v : Int) = ((inv v : Nat) : Int) := by
  have e : IntKind.u32.max = ((4294967295 : Nat) : Int) := by decide
  rw [e, u32_xor_nat _ _ (by decide) h, Nat.xor_comm]
  rfl
def Sum (n : Nat) (w : World) (e : Ending) (w' : World) : Prop := e = .returned (.int .u32 (n : Int)) ∧ Below w.heap.size w w'
theorem xor8 (a b : Nat) (ha : a < 256) (hb : b < 256) : Go.bits .xor .u8 (a : Int) (b : Int) = ((a ^^^ b : Nat) : Int) := u8_xor_nat a b ha hb
theorem bcell {W w1 : World} (hb : Below W.heap.size W w1) : (∀ b o, b < W.heap.size → w1.cell? ⟨b, o, none⟩ = W.cell? ⟨b, o, none⟩) ∧ (∀ b o, b < W.heap.size → w1.frozen? ⟨b, o, none⟩ = W.frozen? ⟨b, o, none⟩) :=
  ⟨fun b o h => hb.cell (p := ⟨b, o, none⟩) h, fun b o h => hb.frozen (p := ⟨b, o, none⟩) h⟩
set_option maxHeartbeats 4000000 in
set_option maxRecDepth 1000000 in
theorem on_calls (crc : Nat) (hc : crc < 4294967296) (b : ByteArray) (hb : b.size ≤ 1000000000000000) (w : World) :
    Calls Try.prog 10 #[.int .u32 (crc : Int), .string b] w (Sum (crcOn crc (nbN b)) w) := by
  obtain ⟨hz, hi⟩ := zero_of_info info
  have HI := Lib.hid hi
  have HZ := Lib.hid hz
  clear hi hz
  go_enter Try.func10, Try.ntmps10
  go_wp2_with fail
  refine (table_calls _).mono ?_; rintro e w1 ⟨rfl, hb1⟩
  have hz := HZ.out
  have hsz := tabA_size 256
  go_wp2_with (refine wpList_put_row rfl 33 _ _ rfl w1.heap.size rfl (tabA 256) rfl 33 _ (heap_alloc_new w1 _) (by rw [hsz]; exact HI.out) (by rw [hsz]; simp) (tabA_one _) ?_; rw [World.setRow_alloc_new])
  clear hz hsz
  rw [not32 crc hc]
  have hv0 := inv_lt hc
  have hout : crcOn crc (nbN b) = inv (run (inv crc) (nbN b)) := rfl
  generalize inv crc = v0 at *
  have HO := Lib.hid hout
  clear hout HI HZ
  go_loop [6, 13] (fun a i => ∃ (v k : Nat), k ≤ b.size ∧ i = .int .i64 k ∧ a = .int .u32 v ∧ v < 4294967296 ∧ Hid (v = run v0 ((nbN b).take k))) (fun _ i => b.size - (intOf i).toNat)
  case atStart => exact ⟨v0, 0, by omega, rfl, rfl, hv0, Lib.hid rfl⟩
  case round =>
    obtain ⟨v, k, hk, rfl, rfl, hv, hs⟩ := hrel
    by_cases hlt : k < b.size
    · have hn := nbN_at b k hlt
      have hx256 := (b[k]'hlt).toNat_lt
      obtain ⟨x, hx⟩ : ∃ x : Nat, (b[k]'hlt).toNat = x := ⟨_, rfl⟩
      rw [hx] at hn hx256
      have h8 := xor8 (v % 256) x (by omega) hx256
      have hz8 : v % 256 ^^^ x < 256 := xor_lt (k := 8) (by omega) hx256
      have hu : upd v x = v / 256 ^^^ stpN 8 (v % 256 ^^^ x) := rfl
      have hul := upd_lt hv hx256
      have HQ : Hid (upd v x = run v0 ((nbN b).take (k + 1))) := Lib.hid (by rw [hn, run_append, ← hs.out]; rfl)
      rw [show ((v % 256 : Nat) : Int) = (v : Int) % 256 by omega] at h8
      have h32 := u32_xor_nat (v / 256) (tv (v % 256 ^^^ x)) (by omega) (stpN_lt 8 (by omega))
      have hu2 : v / 256 ^^^ tv (v % 256 ^^^ x) = upd v x := rfl
      rw [hu2, show ((v / 256 : Nat) : Int) = (v : Int) / 256 by omega] at h32
      have hcell : (w1.alloc (.cells (tabA 256) 33)).cell? ⟨w1.heap.size, v % 256 ^^^ x, none⟩ = some (.int .u32 (tv (v % 256 ^^^ x) : Int)) := by
        rw [cell_of_row _ _ _ _ _ _ (heap_alloc_new w1 _), tabA_get 256 _ hz8, if_pos hz8]
      generalize v % 256 ^^^ x = z at *
      generalize tv z = y at *
      generalize upd v x = u at *
      clear hu hu2 hn hs
      have hlt' : (k : Int) < b.size := by omega
      go_wp2
      go_round
      case rel => exact ⟨u, k + 1, by omega, by go_num, rfl, hul, HQ⟩
      case measure => simp [intOf]; omega
    · obtain rfl : k = b.size := by omega
      have hn := not32 v hv
      have HQ : Hid (inv v = crcOn crc (nbN b)) := Lib.hid (by rw [HO.out, hs.out, List.take_of_length_le (by rw [nbN_length]; omega)])
      clear hs
      go_wp2
      go_ret
      refine ⟨?_, ?_⟩
      · rw [← HQ.out]; rfl
      · exact hb1.alloc hb1.size _
theorem crc_calls (b : ByteArray) (hb : b.size ≤ 1000000000000000) (w : World) : Calls Try.prog 8 #[.string b] w (Sum (crcOn 0 (nbN b)) w) := by
  have h0 : ∀ w, Calls Try.prog 10 #[.int .u32 0, .string b] w (Sum (crcOn 0 (nbN b)) w) := fun w => on_calls 0 (by decide) b hb w
  have H0 := Lib.hid h0
  clear h0
  go_enter Try.func8, Try.ntmps8
  go_wp2_with (go_at_call 10; refine (H0.out _).mono ?_; rintro e w' ⟨rfl, hb⟩)
  go_ret
  exact ⟨rfl, hb⟩
set_option maxHeartbeats 4000000 in
theorem ron_calls (crc : Nat) (hc : crc < 4294967296) (b : ByteArray) (hb : b.size ≤ 1000000000000000) (w : World) :
    Calls Try.prog 11 #[.int .u32 (crc : Int), .string b] w (Sum (crcOn crc (nbN b)) w) := by
  have hn0 : Go.bits .xor .u32 (crc : Int) 4294967295 = ((inv crc : Nat) : Int) := u32_xor_nat crc 4294967295 hc (by decide)
  have hv0 := inv_lt hc
  have hout : crcOn crc (nbN b) = inv (run (inv crc) (nbN b)) := rfl
  go_enter Try.func11, Try.ntmps11
  go_wp2
  clear hn0
  generalize inv crc = v0 at *
  have HO := Lib.hid hout
  clear hout
  go_loop [5, 6] (fun a i => ∃ (v k : Nat), k ≤ b.size ∧ i = .int .i64 k ∧ a = .int .u32 v ∧ v < 4294967296 ∧ Hid (v = run v0 ((nbN b).take k))) (fun _ i => b.size - (intOf i).toNat)
  case atStart => exact ⟨v0, 0, by omega, rfl, rfl, hv0, Lib.hid rfl⟩
  case round =>
    obtain ⟨v, k, hk, rfl, rfl, hv, hs⟩ := hrel
    by_cases hlt : k < b.size
    · have hn := nbN_at b k hlt
      have hx256 := (b[k]'hlt).toNat_lt
      obtain ⟨x, hx⟩ : ∃ x : Nat, (b[k]'hlt).toNat = x := ⟨_, rfl⟩
      rw [hx] at hn hx256
      have hx1 : v ^^^ x < 4294967296 := xor_lt (k := 32) hv (by omega)
      have h32 := u32_xor_nat v x hv (by omega)
      have HQ : Hid (stpN 8 (v ^^^ x) = run v0 ((nbN b).take (k + 1))) := Lib.hid (by rw [hn, run_append, ← hs.out, ← upd_eq]; rfl)
      have hul : stpN 8 (v ^^^ x) < 4294967296 := stpN_lt 8 hx1
      generalize v ^^^ x = y at *
      generalize hr : stpN 8 y = u at *
      have HR := Lib.hid hr
      clear hn hs hr
      have hlt' : (k : Int) < b.size := by omega
      go_wp2
      clear h32 hx
      go_loop [5, 7] (fun a c => ∃ (v m : Nat), a = .int .u32 v ∧ c = .int .i64 m ∧ Hid (stpN (8 - m) v = u) ∧ v < 4294967296 ∧ m ≤ 8) (fun _ c => 8 - (intOf c).toNat)
      case atStart => exact ⟨y, 0, rfl, rfl, HR, hx1, by omega⟩
      case round =>
        obtain ⟨v, m, rfl, rfl, hs, hv, hm⟩ := hrel
        by_cases hm8 : m < 8
        · have ha := and1 v hv
          have hx := xorp (v / 2) (by omega)
          have hst : stpN (8 - m) v = stpN (8 - (m + 1)) (stp v) := by rw [show 8 - m = 8 - (m + 1) + 1 by omega]; rfl
          have hl := stp_lt hv
          rcases Nat.mod_two_eq_zero_or_one v with ho | ho
          · rw [ho] at ha
            have HQ : Hid (stpN (8 - (m + 1)) (v / 2) = u) := Lib.hid (by
              have := hs.out; rw [hst] at this; unfold stp at this; rw [if_neg (by omega)] at this; exact this)
            clear hst hs ho hl hx
            have hv2 : v / 2 < 4294967296 := by omega
            go_wp2
            go_round
            case rel => exact ⟨v / 2, m + 1, by go_num, by go_num, HQ, hv2, by omega⟩
            case measure => simp [intOf]; omega
          · rw [ho] at ha
            have hq : stp v = v / 2 ^^^ 3988292384 := by unfold stp; rw [if_pos ho]
            have HQ : Hid (stpN (8 - (m + 1)) (v / 2 ^^^ 3988292384) = u) := Lib.hid (by
              have := hs.out; rw [hst, hq] at this; exact this)
            rw [hq] at hl
            rw [show ((v / 2 : Nat) : Int) = (v : Int) / 2 by omega] at hx
            generalize v / 2 ^^^ 3988292384 = z at *
            clear hst hs ho hq
            go_wp2
            go_round
            case rel => exact ⟨z, m + 1, by go_num, by go_num, HQ, hl, by omega⟩
            case measure => simp [intOf]; omega
        · obtain rfl : m = 8 := by omega
          have hvt : v = u := hs.out
          subst hvt
          clear hs HR
          go_wp2
          go_round
          case rel => exact ⟨v, k + 1, by omega, by go_num, rfl, hul, HQ⟩
          case measure => simp [intOf]; omega
    · obtain rfl : k = b.size := by omega
      have hn : Go.bits .xor .u32 (v : Int) 4294967295 = ((inv v : Nat) : Int) := u32_xor_nat v 4294967295 hv (by decide)
      have HQ : Hid (inv v = crcOn crc (nbN b)) := Lib.hid (by rw [HO.out, hs.out, List.take_of_length_le (by rw [nbN_length]; omega)])
      clear hs
      go_wp2
      go_ret
      refine ⟨?_, Below.refl _ _⟩
      rw [← HQ.out]; rfl
theorem rcrc_calls (b : ByteArray) (hb : b.size ≤ 1000000000000000) (w : World) : Calls Try.prog 9 #[.string b] w (Sum (crcOn 0 (nbN b)) w) := by
  have h0 : ∀ w, Calls Try.prog 11 #[.int .u32 0, .string b] w (Sum (crcOn 0 (nbN b)) w) := fun w => ron_calls 0 (by decide) b hb w
  have H0 := Lib.hid h0
  clear h0
  go_enter Try.func9, Try.ntmps9
  go_wp2_with (go_at_call 11; refine (H0.out _).mono ?_; rintro e w' ⟨rfl, hb⟩)
  go_ret
  exact ⟨rfl, hb⟩
end Go.Proofs.Ytfmgpmefkjhncaa.Crc
