/- The document's keyed and Sum of chapter 3: their walks. -/
import Derived.Test.YtkhcinnpfpkhnaaDoorMac
set_option linter.unusedVariables false
set_option linter.unusedSimpArgs false
namespace Go.Proofs.YtkhcinnpfpkhnaaDoor.MacRef
open Go.RowKit Go.Lib Go.Proofs.YtkhcinnpfpkhnaaDoor.Base Go.Proofs.YtkhcinnpfpkhnaaDoor.ShaPlain Go.Proofs.YtkhcinnpfpkhnaaDoor.ShaRot Go.Proofs.YtkhcinnpfpkhnaaDoor.Arr Go.Proofs.YtkhcinnpfpkhnaaDoor.Mem Go.Proofs.YtkhcinnpfpkhnaaDoor.Buf Go.Proofs.YtkhcinnpfpkhnaaDoor.ShaKit Go.Proofs.YtkhcinnpfpkhnaaDoor.ShaDig Go.Proofs.YtkhcinnpfpkhnaaDoor.Mac

theorem mixL_length (key : ByteArray) (x : Nat) : (mixL key x).length = 64 := by rw [mixL, List.length_map, blk_length]
theorem take_succ_getD (l : List Nat) (i : Nat) (h : i < l.length) : l.take (i + 1) = l.take i ++ [l.getD i 0] := by
  rw [List.take_succ_eq_append_getElem h]
  simp [List.getD_eq_getElem?_getD, h]
theorem mixL_at (key : ByteArray) (x i : Nat) (hi : i < 64) : (mixL key x).getD i 0 = (blk key).getD i 0 ^^^ x := by
  have h : i < (blk key).length := by rw [blk_length]; exact hi
  rw [mixL, List.getD_eq_getElem?_getD, List.getElem?_map, List.getD_eq_getElem?_getD, List.getElem?_eq_getElem h]
  rfl
theorem mixL_in (key : ByteArray) (x i : Nat) (k : ByteArray) (hk : keyL key = nbN k) (h : i < k.size) (hi : i < 64) : (mixL key x).getD i 0 = (k[i]'h).toNat ^^^ x := by
  rw [mixL_at key x i hi]
  have hn : i < (nbN k).length := by rw [nbN_length]; exact h
  rw [blk, hk, List.getD_eq_getElem?_getD, List.getElem?_append_left hn]
  simp [nbN, h]
  rfl
theorem mixL_out (key : ByteArray) (x i : Nat) (k : ByteArray) (hk : keyL key = nbN k) (h : k.size ≤ i) (hi : i < 64) : (mixL key x).getD i 0 = 0 ^^^ x := by
  rw [mixL_at key x i hi]
  have hn : (nbN k).length = k.size := nbN_length k
  rw [blk, hk, List.getD_eq_getElem?_getD, List.getElem?_append_right (by omega), List.getElem?_replicate]
  split <;> rfl
set_option maxHeartbeats 2000000 in
set_option maxRecDepth 100000 in
theorem keyed_calls (key : ByteArray) (hk : key.size ≤ 140737488355200) (x : Nat) (hx : x < 256) (w : World) (hT : RTab w) :
    Calls Tryd.prog 52 #[.string key, .int .u8 (x : Int)] w (Gives (mix key x) w) := by
  have HS : Hid (∀ (s : ByteArray) (W : World), s.size ≤ 140737488355200 → Below w.heap.size w W → Calls Tryd.prog 22 #[.string s] W (Gives (dig s) W)) :=
    Lib.hid fun s W hs hb => refSum_calls s hs W (hT.below hb)
  have HLEN := Lib.hid (mixL_length key x)
  have HBY := Lib.hid (mixL_byte key x hx)
  clear hT
  by_cases h : 64 < key.size
  · have HKL := Lib.hid (keyL_long key h)
    have HDS := Lib.hid (dig_size key)
    go_enter Tryd.func52, Tryd.ntmps52
    go_wp2_with fail
    refine (HS.out key w hk (Below.refl _ _)).mono ?_; rintro e W0 ⟨rfl, B0⟩
    go_wp2_with fail
    generalize dig key = k at *
    go_loopw [5, 6] (fun s5 s6 wx => ∃ i : Nat, i ≤ 64 ∧ s6 = .int .i64 i ∧ Buf wx w.heap.size s5 ((mixL key x).take i) ∧ Below w.heap.size w wx) (fun _ s6 _ => 64 - (intOf s6).toNat)
    case atStart => exact ⟨0, by omega, rfl, Buf.nil _ _, B0⟩
    case round =>
      obtain ⟨i, hi, rfl, hb, hbl⟩ := hrel
      have hwl := hbl.size
      by_cases hlt : i < 64
      · have hlt' : (i : Int) < 64 := by omega
        have hst := take_succ_getD (mixL key x) i (by rw [HLEN.out]; exact hlt)
        have hln : ((mixL key x).take i).length = i := by rw [List.length_take, HLEN.out]; omega
        by_cases hin : i < k.size
        · have hy := mixL_in key x i k HKL.out hin hlt
          rw [hy] at hst
          have hxr := xor8 ((k[i]'hin).toNat) x (by have := (k[i]'hin).toNat_lt; omega) hx
          have hin' : (i : Int) < (k.size : Int) := by omega
          have HST := Lib.hid hst
          have HB := Lib.hid hb
          have HL := Lib.hid hln
          have HBL := Lib.hid hbl
          clear hst hb hln hbl hy
          generalize (mixL key x).take i = bs at *
          go_wp2_with (at_builtin; refine wpList_buf rfl (.tmp 24) (.tmp 28) rfl w.heap.size _ bs rfl (HB.out.alloc _) ⟨wr.heap.size, 0, none⟩ 1 1 [(k[i]'hin).toNat ^^^ x] rfl rfl (cell_new1 wr _ _ _ rfl) (by rw [HL.out]; omega) (by simp; omega) ?_; intro v' w' hbuf' hbl')
          go_roundw
          case rel => exact ⟨i + 1, by omega, by go_num, by rw [HST.out]; exact hbuf', (HBL.out.alloc hwl _).trans hbl'⟩
          case measure => simp [intOf]; omega
        · have hy := mixL_out key x i k HKL.out (by omega) hlt
          rw [hy] at hst
          have hxr := xor8 0 x (by decide) hx
          have hxr : Go.bits .xor .u8 0 (x : Int) = ((0 ^^^ x : Nat) : Int) := hxr
          have hin' : ¬ (i : Int) < (k.size : Int) := by omega
          have HST := Lib.hid hst
          have HB := Lib.hid hb
          have HL := Lib.hid hln
          have HBL := Lib.hid hbl
          clear hst hb hln hbl hy
          generalize (mixL key x).take i = bs at *
          generalize 0 ^^^ x = y at *
          go_wp2_with (at_builtin; refine wpList_buf rfl (.tmp 24) (.tmp 28) rfl w.heap.size _ bs rfl (HB.out.alloc _) ⟨wr.heap.size, 0, none⟩ 1 1 [y] rfl rfl (cell_new1 wr _ _ _ rfl) (by rw [HL.out]; omega) (by simp; omega) ?_; intro v' w' hbuf' hbl')
          go_roundw
          case rel => exact ⟨i + 1, by omega, by go_num, by rw [HST.out]; exact hbuf', (HBL.out.alloc hwl _).trans hbl'⟩
          case measure => simp [intOf]; omega
      · have hi64 : i = 64 := by omega
        have hlt' : ¬ (i : Int) < 64 := by omega
        rw [hi64, List.take_of_length_le (by rw [HLEN.out]; exact Nat.le_refl _)] at hb
        obtain ⟨g, cap, rfl, hcl⟩ := hb.text (by intro e; have := HLEN.out; rw [e] at this; simp at this)
        have hcv := run_convert_bytes_arg (P := Tryd.prog) wr 57 5 Tryd.underlying57 Tryd.underlying5 g 0 (mixL key x).length cap ((mixL key x).map fun x : Nat => (x : Int)) (by rw [List.length_map]) hcl 9 Tryd.underlying9
        have HV : Hid (strOfNums ((mixL key x).map fun x : Nat => (x : Int)) = mix key x) := Lib.hid rfl
        generalize strOfNums ((mixL key x).map fun x : Nat => (x : Int)) = st at *
        clear hb hcl
        go_wp2
        go_ret
        exact ⟨by rw [HV.out]; rfl, hbl⟩
  · have HKL := Lib.hid (keyL_short key (by omega))
    have B0 := Below.refl w.heap.size w
    go_enter Tryd.func52, Tryd.ntmps52
    go_wp2_with fail
    go_loopw [5, 6] (fun s5 s6 wx => ∃ i : Nat, i ≤ 64 ∧ s6 = .int .i64 i ∧ Buf wx w.heap.size s5 ((mixL key x).take i) ∧ Below w.heap.size w wx) (fun _ s6 _ => 64 - (intOf s6).toNat)
    case atStart => exact ⟨0, by omega, rfl, Buf.nil _ _, B0⟩
    case round =>
      obtain ⟨i, hi, rfl, hb, hbl⟩ := hrel
      have hwl := hbl.size
      by_cases hlt : i < 64
      · have hlt' : (i : Int) < 64 := by omega
        have hst := take_succ_getD (mixL key x) i (by rw [HLEN.out]; exact hlt)
        have hln : ((mixL key x).take i).length = i := by rw [List.length_take, HLEN.out]; omega
        by_cases hin : i < key.size
        · have hy := mixL_in key x i key HKL.out hin hlt
          rw [hy] at hst
          have hxr := xor8 ((key[i]'hin).toNat) x (by have := (key[i]'hin).toNat_lt; omega) hx
          have hin' : (i : Int) < (key.size : Int) := by omega
          have HST := Lib.hid hst
          have HB := Lib.hid hb
          have HL := Lib.hid hln
          have HBL := Lib.hid hbl
          clear hst hb hln hbl hy
          generalize (mixL key x).take i = bs at *
          go_wp2_with (at_builtin; refine wpList_buf rfl (.tmp 24) (.tmp 28) rfl w.heap.size _ bs rfl (HB.out.alloc _) ⟨wr.heap.size, 0, none⟩ 1 1 [(key[i]'hin).toNat ^^^ x] rfl rfl (cell_new1 wr _ _ _ rfl) (by rw [HL.out]; omega) (by simp; omega) ?_; intro v' w' hbuf' hbl')
          go_roundw
          case rel => exact ⟨i + 1, by omega, by go_num, by rw [HST.out]; exact hbuf', (HBL.out.alloc hwl _).trans hbl'⟩
          case measure => simp [intOf]; omega
        · have hy := mixL_out key x i key HKL.out (by omega) hlt
          rw [hy] at hst
          have hxr := xor8 0 x (by decide) hx
          have hxr : Go.bits .xor .u8 0 (x : Int) = ((0 ^^^ x : Nat) : Int) := hxr
          have hin' : ¬ (i : Int) < (key.size : Int) := by omega
          have HST := Lib.hid hst
          have HB := Lib.hid hb
          have HL := Lib.hid hln
          have HBL := Lib.hid hbl
          clear hst hb hln hbl hy
          generalize (mixL key x).take i = bs at *
          generalize 0 ^^^ x = y at *
          go_wp2_with (at_builtin; refine wpList_buf rfl (.tmp 24) (.tmp 28) rfl w.heap.size _ bs rfl (HB.out.alloc _) ⟨wr.heap.size, 0, none⟩ 1 1 [y] rfl rfl (cell_new1 wr _ _ _ rfl) (by rw [HL.out]; omega) (by simp; omega) ?_; intro v' w' hbuf' hbl')
          go_roundw
          case rel => exact ⟨i + 1, by omega, by go_num, by rw [HST.out]; exact hbuf', (HBL.out.alloc hwl _).trans hbl'⟩
          case measure => simp [intOf]; omega
      · have hi64 : i = 64 := by omega
        have hlt' : ¬ (i : Int) < 64 := by omega
        rw [hi64, List.take_of_length_le (by rw [HLEN.out]; exact Nat.le_refl _)] at hb
        obtain ⟨g, cap, rfl, hcl⟩ := hb.text (by intro e; have := HLEN.out; rw [e] at this; simp at this)
        have hcv := run_convert_bytes_arg (P := Tryd.prog) wr 57 5 Tryd.underlying57 Tryd.underlying5 g 0 (mixL key x).length cap ((mixL key x).map fun x : Nat => (x : Int)) (by rw [List.length_map]) hcl 9 Tryd.underlying9
        have HV : Hid (strOfNums ((mixL key x).map fun x : Nat => (x : Int)) = mix key x) := Lib.hid rfl
        generalize strOfNums ((mixL key x).map fun x : Nat => (x : Int)) = st at *
        clear hb hcl
        go_wp2
        go_ret
        exact ⟨by rw [HV.out]; rfl, hbl⟩
set_option maxHeartbeats 1000000 in
theorem refMac_calls (key msg : ByteArray) (hk : key.size ≤ 140737488355200) (hm : msg.size ≤ 140737488355000) (w : World) (hT : RTab w) :
    Calls Tryd.prog 35 #[.string key, .string msg] w (Gives (mac key msg) w) := by
  have HK : Hid (∀ (x : Nat) (W : World), x < 256 → Below w.heap.size w W → Calls Tryd.prog 52 #[.string key, .int .u8 (x : Int)] W (Gives (mix key x) W)) :=
    Lib.hid fun x W hx hb => keyed_calls key hk x hx W (hT.below hb)
  have HS : Hid (∀ (s : ByteArray) (W : World), s.size ≤ 140737488355200 → Below w.heap.size w W → Calls Tryd.prog 22 #[.string s] W (Gives (dig s) W)) :=
    Lib.hid fun s W hs hb => refSum_calls s hs W (hT.below hb)
  have HS2 : Hid ((mix key 54 ++ msg).size = 64 + msg.size) := Lib.hid (by rw [size_app, mix_size])
  have HS3 : Hid ((mix key 92 ++ dig (mix key 54 ++ msg)).size = 96) := Lib.hid (by rw [size_app, mix_size, dig_size])
  have hx1 := mix_size key 54
  have hx2 := mix_size key 92
  have hx3 := dig_size (mix key 54 ++ msg)
  clear hT
  go_enter Tryd.func35, Tryd.ntmps35
  go_wp2_with fail
  refine (HK.out 54 w (by decide) (Below.refl _ _)).mono ?_; rintro e W1 ⟨rfl, B1⟩
  have hz1 := B1.size
  go_wp2_with fail
  refine (HS.out (mix key 54 ++ msg) W1 (by have := HS2.out; omega) B1).mono ?_; rintro e W2 ⟨rfl, C2⟩
  have B2 := B1.trans (C2.mono hz1)
  have hz2 := B2.size
  clear C2 B1
  go_wp2_with fail
  refine (HK.out 92 W2 (by decide) B2).mono ?_; rintro e W3 ⟨rfl, C3⟩
  have B3 := B2.trans (C3.mono hz2)
  have hz3 := B3.size
  clear C3 B2
  go_wp2_with fail
  refine (HS.out (mix key 92 ++ dig (mix key 54 ++ msg)) W3 (by have := HS3.out; omega) B3).mono ?_; rintro e W4 ⟨rfl, C4⟩
  have B4 := B3.trans (C4.mono hz3)
  clear C4 B3
  go_wp2
  go_ret
  exact ⟨rfl, B4⟩
end Go.Proofs.YtkhcinnpfpkhnaaDoor.MacRef
