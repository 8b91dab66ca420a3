/- The document's padded: its walk. -/
import Derived.Test.YtcenfedmbicofaaDoorShaPut
set_option linter.unusedVariables false
set_option linter.unusedSimpArgs false
namespace Go.Proofs.YtcenfedmbicofaaDoor.ShaPadded
open Go.RowKit Go.Proofs.YtcenfedmbicofaaDoor.Base Go.Proofs.YtcenfedmbicofaaDoor.ShaPlain Go.Proofs.YtcenfedmbicofaaDoor.ShaRot Go.Proofs.YtcenfedmbicofaaDoor.Mem Go.Proofs.YtcenfedmbicofaaDoor.Buf Go.Proofs.YtcenfedmbicofaaDoor.ShaTake Go.Proofs.YtcenfedmbicofaaDoor.ShaPut

set_option maxHeartbeats 1000000 in
theorem padded_calls (x : ByteArray) (hx : x.size ≤ 140737488355200) (w : World) : Calls Tryd.prog 73 #[.string x] w (Put w.heap.size (nbN x ++ pad x.size) w) := by
  have hcv := fun W => Lib.run_convert_string_bytes (P := Tryd.prog) W 9 78 5 x Tryd.underlying9 Tryd.underlying78 Tryd.underlying5
  have hb0 := Buf.ofText w 5 x
  have hl0 := below_ofText w 5 x
  have hnl := nbN_length x
  go_enter Tryd.func73, Tryd.ntmps73
  have HB0 := Lib.hid hb0
  have HL0 := Lib.hid hl0
  have hle := hl0.size
  have hz : zeros x.size < 64 := Nat.mod_lt _ (by decide)
  have hze : zeros x.size = (119 - x.size % 64) % 64 := rfl
  have HPAD : Hid (nbN x ++ (128 :: List.replicate (zeros x.size) 0) ++ beN (8 * x.size) 8 = nbN x ++ pad x.size) := Lib.hid (by rw [List.append_assoc]; rfl)
  have HNL := Lib.hid hnl
  generalize nbN x ++ pad x.size = fin at *
  clear hb0 hl0 hnl
  go_wp2_with (at_builtin; refine wpList_buf rfl (.tmp 8) (.tmp 9) rfl w.heap.size _ (nbN x) rfl (HB0.out.alloc _) ⟨(Lib.bytesWorld w 5 x).heap.size, 0, none⟩ 1 1 [128] rfl rfl (cell_new1 _ _ _ 128 rfl) (by rw [HNL.out]; omega) (by simp; omega) ?_; intro v1 w1 hb1 hl1)
  have hl1' := (HL0.out.alloc hle _).trans hl1
  clear hl1 hcv
  generalize grownCap w x.size 0 5 = cap0 at *
  generalize (Lib.bytesWorld w 5 x).heap.size = gg at *
  generalize zeros x.size = z at *
  go_loopw [3] (fun s3 wx => ∃ (k : Nat) (xs : List Nat), k ≤ z ∧ Hid (xs = nbN x ++ (128 :: List.replicate k 0)) ∧ xs.length = x.size + k + 1 ∧ Buf wx w.heap.size s3 xs ∧ Below w.heap.size w wx) (fun s3 _ => match s3 with | .slice _ l _ => x.size + 66 - l | _ => 0)
  case atStart => exact ⟨0, _, by omega, Lib.hid rfl, by rw [List.length_append, HNL.out]; rfl, hb1, hl1'⟩
  case round =>
    obtain ⟨k, xs, hk, hx', hxl, hb, hbl⟩ := hrel
    obtain ⟨A, cap, rfl⟩ := hb.shape
    have hxl' := hxl
    rw [hxl] at hb ⊢
    clear hxl
    have hwl := hbl.size
    have HBB := Lib.hid hb
    have HBS := Lib.hid hbl
    have HX := Lib.hid hxl'
    clear hb hbl hxl' hb1 hl1' HB0 HL0
    by_cases hlt : k < z
    · have hne : (((x.size : Int) + (k : Int) + 1) % 64 != 56) = true := by rw [bne_iff_ne]; omega
      have HZ := Lib.hid hze
      have HXX : Hid (xs ++ [0] = nbN x ++ (128 :: List.replicate (k + 1) 0)) := Lib.hid (by rw [hx'.out, List.replicate_succ', List.append_assoc]; rfl)
      clear hze hx'
      go_wp2_with (at_builtin; refine wpList_buf rfl (.tmp 15) (.tmp 16) rfl w.heap.size _ xs rfl (HBB.out.alloc _) ⟨wr.heap.size, 0, none⟩ 1 1 [0] rfl rfl (cell_new1 wr _ _ 0 rfl) (by rw [HX.out]; omega) (by simp; omega) ?_; intro v' w' hbuf' hbl')
      go_roundw
      case rel => exact ⟨k + 1, xs ++ [0], by omega, HXX, by rw [List.length_append, HX.out]; simp; omega, hbuf', (HBS.out.alloc hwl _).trans hbl'⟩
      case measure =>
        obtain ⟨A2, cap2, rfl⟩ := hbuf'.shape
        simp [HX.out]; omega
    · have hkz : k = z := by omega
      have hne : (((x.size : Int) + (k : Int) + 1) % 64 != 56) = false := by rw [bne_eq_false_iff_eq]; omega
      have HF : Hid (xs ++ beN (8 * x.size) 8 = fin) := Lib.hid (by rw [hx'.out, hkz]; exact HPAD.out)
      have HKZ := Lib.hid hkz
      clear hze hx' hkz
      go_wp2_with fail
      go_loopw [3, 5] (fun s3 s5 wx => ∃ (i : Nat) (ys : List Nat), i ≤ 8 ∧ s5 = .int .i64 i ∧ Buf wx w.heap.size s3 ys ∧ Hid (ys ++ beN (8 * x.size) (8 - i) = fin) ∧ ys.length = x.size + k + 1 + i ∧ Below w.heap.size w wx) (fun _ s5 _ => 8 - (intOf s5).toNat)
      case atStart => exact ⟨0, xs, by omega, rfl, HBB.out, HF, HX.out, HBS.out⟩
      case round =>
        obtain ⟨i, ys, hi, rfl, hb, hs, hyl, hbl⟩ := hrel
        have hwl2 := hbl.size
        by_cases hlt2 : i < 8
        · have hlt' : (i : Int) < 8 := by omega
          obtain ⟨y, hy, hbe⟩ : ∃ y : Nat, (y : Int) = (x.size : Int) * 8 / 2 ^ (56 - 8 * i) % 256 ∧ beN (8 * x.size) (8 - i) = y :: beN (8 * x.size) (8 - (i + 1)) :=
            ⟨8 * x.size / 256 ^ (7 - i) % 256, by
              rw [show (256 : Nat) ^ (7 - i) = 2 ^ (56 - 8 * i) by rw [show 56 - 8 * i = 8 * (7 - i) by omega, Nat.pow_mul], Nat.mul_comm 8]; simp, by
              rw [show 8 - i = (7 - i) + 1 by omega, show 8 - (i + 1) = 7 - i by omega]; rfl⟩
          have HY := Lib.hid hy
          have HQ : Hid ((ys ++ [y]) ++ beN (8 * x.size) (8 - (i + 1)) = fin) := Lib.hid (by rw [List.append_assoc, List.singleton_append, ← hbe]; exact hs.out)
          have HB2 := Lib.hid hb
          have HS2 := Lib.hid hbl
          have HYL := Lib.hid hyl
          have hsh : (0 : Int) ≤ 56 - 8 * (i : Int) := by omega
          clear hy hbe hs hb hbl hyl
          go_wp2_with (at_builtin; refine wpList_buf rfl (.tmp 26) (.tmp 34) rfl w.heap.size _ ys rfl (HB2.out.alloc _) ⟨wr.heap.size, 0, none⟩ 1 1 [y] rfl rfl (cell_new1 wr _ _ y HY.out) (by rw [HYL.out]; omega) (by simp; omega) ?_; intro v' w' hbuf' hbl')
          go_roundw
          case rel => exact ⟨i + 1, ys ++ [y], by omega, by go_num, hbuf', HQ, by rw [List.length_append, HYL.out]; simp; omega, (HS2.out.alloc hwl2 _).trans hbl'⟩
          case measure => simp [intOf]; omega
        · have hi8 : i = 8 := by omega
          rw [hi8] at hs
          have hfin : ys = fin := by have := hs.out; rwa [show beN (8 * x.size) (8 - 8) = [] from rfl, List.append_nil] at this
          rw [hfin] at hb
          have hlt' : ¬ (i : Int) < 8 := by omega
          go_wp2
          go_ret
          exact ⟨_, rfl, hb, hbl⟩
end Go.Proofs.YtcenfedmbicofaaDoor.ShaPadded
