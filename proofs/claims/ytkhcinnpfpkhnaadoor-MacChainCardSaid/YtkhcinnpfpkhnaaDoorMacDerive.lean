/- mac.Derive and the document's Derive: their walks. -/
import Derived.Test.YtkhcinnpfpkhnaaDoorMacSame
import Derived.Lib.AppendStr
import Derived.Laws.MakeOwn
set_option linter.unusedVariables false
set_option linter.unusedSimpArgs false
namespace Go.Proofs.YtkhcinnpfpkhnaaDoor.MacDerive
open Go.RowKit Go.Lib Go.Proofs.YtkhcinnpfpkhnaaDoor.Base Go.Proofs.YtkhcinnpfpkhnaaDoor.ShaPlain Go.Proofs.YtkhcinnpfpkhnaaDoor.ShaRot Go.Proofs.YtkhcinnpfpkhnaaDoor.Arr Go.Proofs.YtkhcinnpfpkhnaaDoor.Mem Go.Proofs.YtkhcinnpfpkhnaaDoor.Buf Go.Proofs.YtkhcinnpfpkhnaaDoor.ShaKit Go.Proofs.YtkhcinnpfpkhnaaDoor.ShaDig Go.Proofs.YtkhcinnpfpkhnaaDoor.Mac Go.Proofs.YtkhcinnpfpkhnaaDoor.MacRef Go.Proofs.YtkhcinnpfpkhnaaDoor.MacSame

/-- The one byte of a number. -/
def byte (i : Nat) : ByteArray := strOfNums [(i : Int)]
theorem byte_size (i : Nat) : (byte i).size = 1 := by rw [byte, son_size]; rfl
/-- The i-th 32 bytes that are derived; those up to it. -/
def nth (key label : ByteArray) : Nat → ByteArray
  | 0 => ⟨#[]⟩
  | i + 1 => mac key (nth key label i ++ label ++ byte (i + 1))
def acc (key label : ByteArray) : Nat → ByteArray
  | 0 => ⟨#[]⟩
  | i + 1 => acc key label i ++ nth key label (i + 1)
theorem nth_size (key label : ByteArray) (i : Nat) : (nth key label (i + 1)).size = 32 := mac_size _ _
theorem nth_le (key label : ByteArray) (i : Nat) : (nth key label i).size ≤ 32 := by
  cases i with
  | zero => show 0 ≤ _; omega
  | succ i => rw [nth_size]; omega
theorem acc_size (key label : ByteArray) (i : Nat) : (acc key label i).size = 32 * i := by
  induction i with
  | zero => rfl
  | succ i ih => rw [acc, size_app, ih, nth_size]; omega
def cdiv (n : Nat) : Nat := (n + 31) / 32
def derive (key label : ByteArray) (n : Nat) : ByteArray := (acc key label (cdiv n)).extract 0 n
theorem derive_size (key label : ByteArray) (n : Nat) : (derive key label n).size = n := by
  rw [derive, ByteArray.size_extract, acc_size, cdiv]; omega
def Derived (key label : ByteArray) (n : Nat) (w : World) (e : Ending) (w' : World) : Prop := e = .returned (.tuple #[.string (derive key label n), .int .i64 0]) ∧ Below w.heap.size w w'
def Refused (w : World) (e : Ending) (w' : World) : Prop := e = .returned (.tuple #[.string ⟨#[]⟩, .int .i64 30]) ∧ Below w.heap.size w w'
theorem derive_no (key label : ByteArray) (n : Int) (hn : n < 0 ∨ 8160 < n) (w : World) : Calls Tryd.prog 36 #[.string key, .string label, .int .i64 n] w (Refused w) := by
  rcases hn with h | h
  all_goals
    go_enter Tryd.func36, Tryd.ntmps36
    go_wp2
    go_ret2
    exact ⟨rfl, Below.refl _ _⟩
theorem refDerive_no (key label : ByteArray) (n : Int) (hn : n < 0 ∨ 8160 < n) (w : World) : Calls Tryd.prog 37 #[.string key, .string label, .int .i64 n] w (Refused w) := by
  rcases hn with h | h
  all_goals
    go_enter Tryd.func37, Tryd.ntmps37
    go_wp2
    go_ret2
    exact ⟨rfl, Below.refl _ _⟩
theorem byte_conv (W : World) (i : Nat) : (convert 57 9 (.slice (some ⟨W.heap.size, 0, none⟩) 1 1)).run Tryd.prog (W.alloc (.cells #[.int .u8 (i : Int)] 5)) = .ok (.string (byte i)) (W.alloc (.cells #[.int .u8 (i : Int)] 5)) :=
  run_convert_bytes_arg (P := Tryd.prog) _ 57 5 Tryd.underlying57 Tryd.underlying5 W.heap.size 0 1 1 [(i : Int)] rfl (fun j hj => by
    obtain rfl : j = 0 := by omega
    rw [(Row.new W _ _).cell]; rfl) 9 Tryd.underlying9
theorem own_base {w : World} {base : Nat} {e : TypeId} {size n : Nat} {v : Value} {xs : List Value} (h : w.ownsRow base e size v n xs) (k : Nat) (hk : v.ownBlock = some k) : base ≤ k := by
  rcases h.2 with ⟨rfl, _⟩ | ⟨g, cap, cur, rfl, hb, _⟩
  · simp [Value.ownBlock] at hk
  · have : g = k := by simpa [Value.ownBlock] using hk
    omega
theorem strCells_get (s : ByteArray) (i : Nat) (h : i < s.size) : (strCells s)[i]? = some (.int .u8 (((nbN s).map fun x : Nat => (x : Int)).getD i 0)) := by
  rw [getD_ints]
  have hl : i < (nbN s).length := by rw [nbN_length]; exact h
  have e : strCells s = (nbN s).map fun x : Nat => Value.int .u8 (x : Int) := by simp [strCells, nbN]
  rw [e, List.getElem?_map, List.getElem?_eq_getElem hl, List.getD_eq_getElem?_getD, List.getElem?_eq_getElem hl]
  rfl
theorem son_take (s : ByteArray) (n : Nat) : strOfNums (((nbN s).take n).map fun x : Nat => (x : Int)) = s.extract 0 n := by
  rw [← txt_nbN (s.extract 0 n), nbN_extract, txt]
  simp
set_option maxHeartbeats 2000000 in
set_option maxRecDepth 100000 in
theorem refDerive_calls (key label : ByteArray) (n : Nat) (hk : key.size ≤ 140737488351232) (hl : label.size ≤ 140737488351232) (hn : n ≤ 8160) (w : World) (hT : RTab w) :
    Calls Tryd.prog 37 #[.string key, .string label, .int .i64 (n : Int)] w (Derived key label n w) := by
  have HM : Hid (∀ (m : ByteArray) (W : World), m.size ≤ 140737488355000 → Below w.heap.size w W → Calls Tryd.prog 35 #[.string key, .string m] W (Gives (mac key m) W)) :=
    Lib.hid fun m W hm hb => refMac_calls key m (by omega) hm W (hT.below hb)
  have HD : Hid (derive key label n = (acc key label (cdiv n)).extract 0 n) := Lib.hid rfl
  have hc : cdiv n ≤ 255 := by unfold cdiv; omega
  have hc1 : n ≤ 32 * cdiv n ∧ 32 * cdiv n < n + 32 := by unfold cdiv; omega
  generalize hcd : cdiv n = c at *
  clear hT hcd
  go_enter Tryd.func37, Tryd.ntmps37
  go_wp2_with fail
  go_loopw [8, 9, 10] (fun s8 s9 s10 wx => ∃ i : Nat, i ≤ c ∧ s10 = .int .i64 ((i + 1 : Nat) : Int) ∧ s9 = .string (nth key label i) ∧ s8 = .string (acc key label i) ∧ Below w.heap.size w wx) (fun _ _ s10 _ => 300 - (intOf s10).toNat)
  case atStart => exact ⟨0, by omega, rfl, rfl, rfl, Below.refl _ _⟩
  case round =>
    obtain ⟨i, hi, rfl, rfl, rfl, hbl⟩ := hrel
    have has := acc_size key label i
    have hwl := hbl.size
    by_cases hlt : i < c
    · have h1 : ((i + 1 : Nat) : Int) ≤ 255 := by omega
      have h2 : ((32 * i : Nat) : Int) < (n : Int) := by omega
      have hns := nth_le key label i
      have hs2 := size_app (nth key label i) label
      have hs3 := Lib.hid (size_app (nth key label i ++ label) (byte (i + 1)))
      have hby := byte_size (i + 1)
      have hcv : ∀ W : World, (convert 57 9 (.slice (some ⟨W.heap.size, 0, none⟩) 1 1)).run Tryd.prog (W.alloc (.cells #[.int .u8 ((i : Int) + 1)] 5)) = .ok (.string (byte (i + 1))) (W.alloc (.cells #[.int .u8 ((i : Int) + 1)] 5)) := fun W => byte_conv W (i + 1)
      have HN : Hid (mac key (nth key label i ++ label ++ byte (i + 1)) = nth key label (i + 1)) := Lib.hid rfl
      have HA : Hid (acc key label i ++ nth key label (i + 1) = acc key label (i + 1)) := Lib.hid rfl
      have hz := nth_size key label i
      go_wp2_with fail
      refine (HM.out (nth key label i ++ label ++ byte (i + 1)) _ (by have := hs3.out; omega) (hbl.alloc hwl _)).mono ?_; rintro e W1 ⟨rfl, C1⟩
      rw [HN.out]
      have B1 := Lib.hid ((hbl.alloc hwl (.cells #[.int .u8 ((i : Int) + 1)] 5)).trans (C1.mono (by simp; omega)))
      clear C1 hbl hcv
      go_wp2
      go_roundw
      case rel => exact ⟨i + 1, by omega, by go_num, rfl, by rw [HA.out], B1.out⟩
      case measure => simp [intOf]; omega
    · have hic : i = c := by omega
      have h2 : ¬ ((32 * i : Nat) : Int) < (n : Int) := by omega
      have HIC := Lib.hid hic
      have hsl := slice_h (P := Tryd.prog) (acc key label i) 9 Tryd.underlying9 n (by omega)
      have HE : Hid (derive key label n = (acc key label i).extract 0 n) := Lib.hid (by rw [HD.out, hic])
      clear hic
      by_cases h255 : i + 1 ≤ 255
      · have h1 : ((i + 1 : Nat) : Int) ≤ 255 := by omega
        go_wp2
        go_ret2
        exact ⟨by rw [HE.out]; rfl, hbl⟩
      · have h1 : ¬ ((i + 1 : Nat) : Int) ≤ 255 := by omega
        go_wp2
        go_ret2
        exact ⟨by rw [HE.out]; rfl, hbl⟩
set_option maxHeartbeats 2000000 in
set_option maxRecDepth 100000 in
theorem derive_calls (key label : ByteArray) (n : Nat) (hk : key.size ≤ 140737488351232) (hl : label.size ≤ 140737488351232) (hn : n ≤ 8160) (w : World) (hT : Tab w) :
    Calls Tryd.prog 36 #[.string key, .string label, .int .i64 (n : Int)] w (Derived key label n w) := by
  have HM : Hid (∀ (m : ByteArray) (W : World), m.size ≤ 800000000000000 → Below w.heap.size w W → Calls Tryd.prog 30 #[.string key, .string m] W (Gives (mac key m) W)) :=
    Lib.hid fun m W hm hb => macSum_calls key m (by omega) hm W (hT.below hb)
  have HD : Hid (derive key label n = (acc key label (cdiv n)).extract 0 n) := Lib.hid rfl
  have hc : cdiv n ≤ 255 := by unfold cdiv; omega
  have hc1 : n ≤ 32 * cdiv n ∧ 32 * cdiv n < n + 32 := by unfold cdiv; omega
  generalize hcd : cdiv n = c at *
  obtain ⟨iu, hiu, hz8, hs8, hb8⟩ := info_u8
  obtain ⟨w1, hmk, ho1, hg1⟩ := run_make_own (P := Tryd.prog) w w.heap.size 57 5 iu _ 1 Tryd.underlying57 hiu hz8 hs8 .i64 .i64 (n + 32) (by rw [hb8]; omega) (by unfold maxLen; omega) (Nat.le_refl _)
  have hmk : (Instr.makeSlice 57 (.int .i64 0) (.int .i64 ((n : Int) + 32))).run Tryd.prog w = .ok (.slice (some ⟨w.heap.size, 0, none⟩) 0 (n + 32)) w1 := hmk
  have hl1 := Grew.below hg1
  have HI : Hid (Tryd.prog.info? 5 = some iu ∧ iu.zero = some (.int .u8 0) ∧ iu.size = 1 ∧ iu.bytes = 1) := Lib.hid ⟨hiu, hz8, hs8, hb8⟩
  clear hT hcd hiu hz8 hs8 hb8
  go_enter Tryd.func36, Tryd.ntmps36
  go_wp2_with fail
  clear hmk
  go_loopw [8, 9, 10] (fun s8 s9 s10 wx => ∃ i : Nat, i ≤ c ∧ s10 = .int .i64 ((i + 1 : Nat) : Int) ∧ s9 = .string (nth key label i) ∧ wx.ownsRow w.heap.size 5 1 s8 (32 * i) (strCells (acc key label i)) ∧ Below w.heap.size w wx) (fun _ _ s10 _ => 300 - (intOf s10).toNat)
  case atStart => exact ⟨0, by omega, rfl, rfl, ho1, hl1⟩
  case round =>
    obtain ⟨i, hi, rfl, rfl, ho, hbl⟩ := hrel
    have hwl := hbl.size
    obtain ⟨A0, c0, rfl⟩ : ∃ A c, u8 = .slice A (32 * i) c := by
      rcases ho.2 with ⟨h1, h2⟩ | ⟨g, cap, cur, h1, _⟩
      · exact ⟨none, 0, by rw [h1, h2]⟩
      · exact ⟨_, _, h1⟩
    have HO := Lib.hid ho
    clear ho
    by_cases hlt : i < c
    · have h2 : ((32 * i : Nat) : Int) < (n : Int) := by omega
      have hns := nth_le key label i
      have hs2 := size_app (nth key label i) label
      have hs3 := Lib.hid (size_app (nth key label i ++ label) (byte (i + 1)))
      have hby := byte_size (i + 1)
      have hcv : ∀ W : World, (convert 57 9 (.slice (some ⟨W.heap.size, 0, none⟩) 1 1)).run Tryd.prog (W.alloc (.cells #[.int .u8 ((i : Int) + 1)] 5)) = .ok (.string (byte (i + 1))) (W.alloc (.cells #[.int .u8 ((i : Int) + 1)] 5)) := fun W => byte_conv W (i + 1)
      have HN : Hid (mac key (nth key label i ++ label ++ byte (i + 1)) = nth key label (i + 1)) := Lib.hid rfl
      have HA : Hid (strCells (acc key label i) ++ strCells (nth key label (i + 1)) = strCells (acc key label (i + 1))) := Lib.hid (by rw [acc]; simp [strCells, ByteArray.data_append])
      have HZ := Lib.hid (nth_size key label i)
      go_wp2_with fail
      refine (HM.out (nth key label i ++ label ++ byte (i + 1)) _ (by have := hs3.out; omega) (hbl.alloc hwl _)).mono ?_; rintro e W1 ⟨rfl, C1⟩
      rw [HN.out]
      have B1 := (hbl.alloc hwl (.cells #[.int .u8 ((i : Int) + 1)] 5)).trans (C1.mono (by simp; omega))
      have hz1 := B1.size
      have HO1 := Lib.hid ((HO.out.alloc (.cells #[.int .u8 ((i : Int) + 1)] 5)).kept (Grew.of_below C1 none) (by cases A0 <;> simp [Value.ownBlock]))
      clear C1 hbl hcv
      go_wp2_with (at_builtin; refine wpList_append_own_string _ rfl (.tmp 36) (.tmp 37) 57 9 rfl w.heap.size 5 iu Tryd.underlying57 Tryd.underlying9 HI.out.1 HI.out.2.1 HI.out.2.2.1 HI.out.2.2.2 _ (32 * i) _ rfl HO1.out _ rfl (by unfold maxLen; rw [HZ.out]; omega) (by rw [HZ.out]; omega) hz1 ?_; intro v2 W2 ho2 hg2 _)
      rw [HA.out] at ho2
      have HF : Hid (W2.ownsRow w.heap.size 5 1 v2 (32 * (i + 1)) (strCells (acc key label (i + 1))) ∧ Below w.heap.size w W2) := Lib.hid ⟨by rw [HZ.out] at ho2; rw [show 32 * (i + 1) = 32 * i + 32 by omega]; exact ho2, B1.grown hg2 hz1 (own_base HO1.out)⟩
      clear ho2 hg2 B1
      go_wp2
      go_roundw
      case rel => exact ⟨i + 1, by omega, by go_num, rfl, HF.out⟩
      case measure => simp [intOf]; omega
    · have hic : i = c := by omega
      have h2 : ¬ ((32 * i : Nat) : Int) < (n : Int) := by omega
      have HE : Hid (derive key label n = (acc key label i).extract 0 n) := Lib.hid (by rw [HD.out, hic])
      have hni : n ≤ 32 * i := by omega
      have HAS := Lib.hid (acc_size key label i)
      clear hic
      rcases HO.out.2 with ⟨h3, h4⟩ | ⟨g, cap, cur, h3, h4, h5, h6, _⟩
      · have hn0 : n = 0 := by omega
        have hi0 : i = 0 := by omega
        rw [h4] at h3
        injection h3 with h3 _ h5
        subst hn0 hi0 h3 h5
        have hcv := run_convert_bytes_nil (P := Tryd.prog) wr 57 5 Tryd.underlying57 Tryd.underlying5 0 0 9 Tryd.underlying9
        have HE2 : Hid (derive key label 0 = ⟨#[]⟩) := Lib.hid (by rw [HE.out]; rfl)
        clear h4
        go_wp2
        go_ret2
        exact ⟨by rw [HE2.out]; rfl, hbl⟩
      · injection h3 with h3 _ h7
        subst h3 h7
        have hcl : ∀ j, j < n → wr.cell? ⟨g, 0 + j, none⟩ = some (.int .u8 ((((nbN (acc key label i)).take n).map fun x : Nat => (x : Int)).getD j 0)) := by
          intro j hj
          have hja : j < (acc key label i).size := by rw [HAS.out]; omega
          have := HO.out.cells (g := g) rfl j _ (strCells_get (acc key label i) j hja)
          rw [add_plain] at this
          rw [this, getD_ints, getD_ints, List.getD_eq_getElem?_getD, List.getD_eq_getElem?_getD, List.getElem?_take_of_lt hj]
        have hcv := run_convert_bytes_arg (P := Tryd.prog) wr 57 5 Tryd.underlying57 Tryd.underlying5 g 0 n c0 (((nbN (acc key label i)).take n).map fun x : Nat => (x : Int)) (by rw [List.length_map, List.length_take, nbN_length, HAS.out]; omega) hcl 9 Tryd.underlying9
        rw [son_take, ← HE.out] at hcv
        have hcap : n ≤ c0 := by omega
        have hcap2 : c0 ≤ 9223372036854775807 := by rename_i h8; have := h8.1; unfold maxLen at this; omega
        clear hcl h5
        go_wp2
        go_ret2
        exact ⟨rfl, hbl⟩
end Go.Proofs.YtkhcinnpfpkhnaaDoor.MacDerive
