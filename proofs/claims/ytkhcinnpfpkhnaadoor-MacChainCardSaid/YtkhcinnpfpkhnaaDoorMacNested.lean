/- MacNested: its walk. -/
import Derived.Test.YtkhcinnpfpkhnaaDoorMacBlock
set_option linter.unusedVariables false
set_option linter.unusedSimpArgs false
namespace Go.Proofs.YtkhcinnpfpkhnaaDoor.MacLaws
open Go.RowKit Go.Lib Go.Proofs.YtkhcinnpfpkhnaaDoor.Base Go.Proofs.YtkhcinnpfpkhnaaDoor.ShaPlain Go.Proofs.YtkhcinnpfpkhnaaDoor.Mem Go.Proofs.YtkhcinnpfpkhnaaDoor.Buf Go.Proofs.YtkhcinnpfpkhnaaDoor.ShaDig Go.Proofs.YtkhcinnpfpkhnaaDoor.Mac Go.Proofs.YtkhcinnpfpkhnaaDoor.MacRef Go.Proofs.YtkhcinnpfpkhnaaDoor.MacSame Go.Proofs.YtkhcinnpfpkhnaaDoor.MacDerive Go.Proofs.YtkhcinnpfpkhnaaDoor.ShaLaws

theorem blk_dig (key : ByteArray) (h : 64 < key.size) : blk (dig key) = blk key := by
  rw [blk, blk, keyL_short (dig key) (by rw [dig_size]; decide), keyL_long key h]
theorem blk_zero (key : ByteArray) (h : key.size < 64) : blk (key ++ ⟨#[0]⟩) = blk key := by
  have e : nbN (key ++ ⟨#[0]⟩) = nbN key ++ [0] := by rw [nbN_append]; rfl
  rw [blk, blk, keyL_short _ (by rw [size_app]; show key.size + 1 ≤ 64; omega), keyL_short key (by omega), e, List.length_append, nbN_length, List.append_assoc]
  congr 1
  rw [show 64 - key.size = (64 - (key.size + 1)) + 1 by omega, List.replicate_succ]
  rfl
theorem mac_of_blk (k k' msg : ByteArray) (h : blk k = blk k') : mac k msg = mac k' msg := by simp only [mac, mix, mixL, h]
set_option maxHeartbeats 2000000 in
theorem nested_long (key msg : ByteArray) (w : World) (hk : key.size ≤ 140737488351232) (hm : msg.size ≤ 140737488351232) (hT : Tab w) (hc : 64 < key.size) :
    Calls Tryd.prog 10 #[.string key, .string msg] w (AllTrue w) := by
  have HM : Hid (∀ (k : ByteArray) (W : World), k.size ≤ 200000000000000 → Below w.heap.size w W → Calls Tryd.prog 30 #[.string k, .string msg] W (Gives (mac k msg) W)) := Lib.hid fun k W hk h => macSum_calls k msg (by omega) (by omega) W (hT.below h)
  have HK : Hid (∀ (x : Nat) (W : World), x < 256 → Below w.heap.size w W → Calls Tryd.prog 31 #[.string key, .int .u8 (x : Int)] W (Gives (mix key x) W)) :=
    Lib.hid fun x W hx hb => block_calls key (by omega) x hx W (hT.below hb)
  have HS : Hid (∀ (s : ByteArray) (W : World), s.size ≤ 900000000000000 → Below w.heap.size w W → Calls Tryd.prog 21 #[.string s] W (Gives (dig s) W)) :=
    Lib.hid fun s W hs hb => shaSum_calls s hs W (hT.below hb)
  have HS2 : Hid ((mix key 54 ++ msg).size = 64 + msg.size) := Lib.hid (by rw [size_app, mix_size])
  have HS3 : Hid ((mix key 92 ++ dig (mix key 54 ++ msg)).size = 96) := Lib.hid (by rw [size_app, mix_size, dig_size])
  have HE : Hid (dig (mix key 92 ++ dig (mix key 54 ++ msg)) = mac key msg) := Lib.hid rfl
  have hx1 := mix_size key 54
  have hx2 := mix_size key 92
  have hx3 := dig_size (mix key 54 ++ msg)
  have hms := mac_size key msg
  have HQ : Hid (mac (dig key) msg = mac key msg) := Lib.hid (mac_of_blk _ _ _ (blk_dig key hc))
  have HD := Lib.hid (dig_size key)
  clear hT
  go_enter Tryd.func10, Tryd.ntmps10
  go_wp2_with fail
  refine (HM.out key w (by omega) (Below.refl _ _)).mono ?_; rintro e W1 ⟨rfl, B1⟩
  have hz1 := B1.size
  go_wp2_with fail
  refine (HK.out 54 W1 (by decide) B1).mono ?_; rintro e W2 ⟨rfl, C2⟩
  have B2 := B1.trans (C2.mono hz1)
  have hz2 := B2.size
  clear C2 B1
  go_wp2_with fail
  refine (HS.out (mix key 54 ++ msg) W2 (by have := HS2.out; omega) B2).mono ?_; rintro e W3 ⟨rfl, C3⟩
  have B3 := B2.trans (C3.mono hz2)
  have hz3 := B3.size
  clear C3 B2
  go_wp2_with fail
  refine (HK.out 92 W3 (by decide) B3).mono ?_; rintro e W4 ⟨rfl, C4⟩
  have B4 := B3.trans (C4.mono hz3)
  have hz4 := B4.size
  clear C4 B3
  go_wp2_with fail
  refine (HS.out (mix key 92 ++ dig (mix key 54 ++ msg)) W4 (by have := HS3.out; omega) B4).mono ?_; rintro e W5 ⟨rfl, C5⟩
  have B5 := B4.trans (C5.mono hz4)
  have hz5 := B5.size
  clear C5 B4
  rw [HE.out]
  go_wp2_with fail
  refine (HS.out key W5 (by omega) B5).mono ?_; rintro e W6 ⟨rfl, C6⟩
  have B6 := B5.trans (C6.mono hz5)
  have hz6 := B6.size
  clear C6 B5
  go_wp2_with fail
  refine (HM.out (dig key) W6 (by rw [HD.out]; decide) B6).mono ?_; rintro e W7 ⟨rfl, C7⟩
  have B7 := B6.trans (C7.mono hz6)
  rw [HQ.out]
  go_wp2
  go_ret
  exact ⟨by simp, B7⟩
set_option maxHeartbeats 2000000 in
theorem nested_64 (key msg : ByteArray) (w : World) (hk : key.size ≤ 140737488351232) (hm : msg.size ≤ 140737488351232) (hT : Tab w) (hc : key.size = 64) :
    Calls Tryd.prog 10 #[.string key, .string msg] w (AllTrue w) := by
  have HM : Hid (∀ (k : ByteArray) (W : World), k.size ≤ 200000000000000 → Below w.heap.size w W → Calls Tryd.prog 30 #[.string k, .string msg] W (Gives (mac k msg) W)) := Lib.hid fun k W hk h => macSum_calls k msg (by omega) (by omega) W (hT.below h)
  have HK : Hid (∀ (x : Nat) (W : World), x < 256 → Below w.heap.size w W → Calls Tryd.prog 31 #[.string key, .int .u8 (x : Int)] W (Gives (mix key x) W)) :=
    Lib.hid fun x W hx hb => block_calls key (by omega) x hx W (hT.below hb)
  have HS : Hid (∀ (s : ByteArray) (W : World), s.size ≤ 900000000000000 → Below w.heap.size w W → Calls Tryd.prog 21 #[.string s] W (Gives (dig s) W)) :=
    Lib.hid fun s W hs hb => shaSum_calls s hs W (hT.below hb)
  have HS2 : Hid ((mix key 54 ++ msg).size = 64 + msg.size) := Lib.hid (by rw [size_app, mix_size])
  have HS3 : Hid ((mix key 92 ++ dig (mix key 54 ++ msg)).size = 96) := Lib.hid (by rw [size_app, mix_size, dig_size])
  have HE : Hid (dig (mix key 92 ++ dig (mix key 54 ++ msg)) = mac key msg) := Lib.hid rfl
  have hx1 := mix_size key 54
  have hx2 := mix_size key 92
  have hx3 := dig_size (mix key 54 ++ msg)
  have hms := mac_size key msg
  have hc1 : ((key.size : Int) == 64) = true := by rw [beq_iff_eq]; omega
  have hc2 : ¬ (64 : Int) < (key.size : Int) := by omega
  clear hc
  clear hT
  go_enter Tryd.func10, Tryd.ntmps10
  go_wp2_with fail
  refine (HM.out key w (by omega) (Below.refl _ _)).mono ?_; rintro e W1 ⟨rfl, B1⟩
  have hz1 := B1.size
  go_wp2_with fail
  refine (HK.out 54 W1 (by decide) B1).mono ?_; rintro e W2 ⟨rfl, C2⟩
  have B2 := B1.trans (C2.mono hz1)
  have hz2 := B2.size
  clear C2 B1
  go_wp2_with fail
  refine (HS.out (mix key 54 ++ msg) W2 (by have := HS2.out; omega) B2).mono ?_; rintro e W3 ⟨rfl, C3⟩
  have B3 := B2.trans (C3.mono hz2)
  have hz3 := B3.size
  clear C3 B2
  go_wp2_with fail
  refine (HK.out 92 W3 (by decide) B3).mono ?_; rintro e W4 ⟨rfl, C4⟩
  have B4 := B3.trans (C4.mono hz3)
  have hz4 := B4.size
  clear C4 B3
  go_wp2_with fail
  refine (HS.out (mix key 92 ++ dig (mix key 54 ++ msg)) W4 (by have := HS3.out; omega) B4).mono ?_; rintro e W5 ⟨rfl, C5⟩
  have B5 := B4.trans (C5.mono hz4)
  have hz5 := B5.size
  clear C5 B4
  rw [HE.out]
  go_wp2
  go_ret
  exact ⟨rfl, B5⟩
set_option maxHeartbeats 2000000 in
theorem nested_short (key msg : ByteArray) (w : World) (hk : key.size ≤ 140737488351232) (hm : msg.size ≤ 140737488351232) (hT : Tab w) (hc : key.size < 64) :
    Calls Tryd.prog 10 #[.string key, .string msg] w (AllTrue w) := by
  have HM : Hid (∀ (k : ByteArray) (W : World), k.size ≤ 200000000000000 → Below w.heap.size w W → Calls Tryd.prog 30 #[.string k, .string msg] W (Gives (mac k msg) W)) := Lib.hid fun k W hk h => macSum_calls k msg (by omega) (by omega) W (hT.below h)
  have HK : Hid (∀ (x : Nat) (W : World), x < 256 → Below w.heap.size w W → Calls Tryd.prog 31 #[.string key, .int .u8 (x : Int)] W (Gives (mix key x) W)) :=
    Lib.hid fun x W hx hb => block_calls key (by omega) x hx W (hT.below hb)
  have HS : Hid (∀ (s : ByteArray) (W : World), s.size ≤ 900000000000000 → Below w.heap.size w W → Calls Tryd.prog 21 #[.string s] W (Gives (dig s) W)) :=
    Lib.hid fun s W hs hb => shaSum_calls s hs W (hT.below hb)
  have HS2 : Hid ((mix key 54 ++ msg).size = 64 + msg.size) := Lib.hid (by rw [size_app, mix_size])
  have HS3 : Hid ((mix key 92 ++ dig (mix key 54 ++ msg)).size = 96) := Lib.hid (by rw [size_app, mix_size, dig_size])
  have HE : Hid (dig (mix key 92 ++ dig (mix key 54 ++ msg)) = mac key msg) := Lib.hid rfl
  have hx1 := mix_size key 54
  have hx2 := mix_size key 92
  have hx3 := dig_size (mix key 54 ++ msg)
  have hms := mac_size key msg
  have HQ : Hid (mac (key ++ ⟨#[0]⟩) msg = mac key msg) := Lib.hid (mac_of_blk _ _ _ (blk_zero key hc))
  have HD : Hid ((key ++ ⟨#[0]⟩).size = key.size + 1) := Lib.hid (size_app _ _)
  have HQ2 : Hid (∀ (W : World), Below w.heap.size w W → Calls Tryd.prog 30 #[.string (key ++ ⟨#[0]⟩), .string msg] W (Gives (mac key msg) W)) :=
    Lib.hid fun W h => by rw [← HQ.out]; exact HM.out _ W (by rw [HD.out]; omega) h
  have hc1 : ((key.size : Int) == 64) = false := by rw [beq_eq_false_iff_ne]; omega
  clear hT
  go_enter Tryd.func10, Tryd.ntmps10
  go_wp2_with fail
  refine (HM.out key w (by omega) (Below.refl _ _)).mono ?_; rintro e W1 ⟨rfl, B1⟩
  have hz1 := B1.size
  go_wp2_with fail
  refine (HK.out 54 W1 (by decide) B1).mono ?_; rintro e W2 ⟨rfl, C2⟩
  have B2 := B1.trans (C2.mono hz1)
  have hz2 := B2.size
  clear C2 B1
  go_wp2_with fail
  refine (HS.out (mix key 54 ++ msg) W2 (by have := HS2.out; omega) B2).mono ?_; rintro e W3 ⟨rfl, C3⟩
  have B3 := B2.trans (C3.mono hz2)
  have hz3 := B3.size
  clear C3 B2
  go_wp2_with fail
  refine (HK.out 92 W3 (by decide) B3).mono ?_; rintro e W4 ⟨rfl, C4⟩
  have B4 := B3.trans (C4.mono hz3)
  have hz4 := B4.size
  clear C4 B3
  go_wp2_with fail
  refine (HS.out (mix key 92 ++ dig (mix key 54 ++ msg)) W4 (by have := HS3.out; omega) B4).mono ?_; rintro e W5 ⟨rfl, C5⟩
  have B5 := B4.trans (C5.mono hz4)
  have hz5 := B5.size
  clear C5 B4
  rw [HE.out]
  go_wp2_with fail
  refine (HQ2.out _ B5).mono ?_; rintro e W7 ⟨rfl, C7⟩
  have B7 := B5.trans (C7.mono hz5)
  go_wp2
  go_ret
  exact ⟨by simp, B7⟩
theorem macNested_walk (key msg : ByteArray) (w : World) (hk : key.size ≤ 140737488351232) (hm : msg.size ≤ 140737488351232)
    (h3 : ∀ i : Nat, i < 8 → w.cell? ⟨1, i, none⟩ = some (.int .u32 (Ints I0.list i))) (h4 : ∀ i : Nat, i < 64 → w.cell? ⟨3, i, none⟩ = some (.int .u32 (Ints K0 i))) :
    Calls Tryd.prog 10 #[.string key, .string msg] w fun e w' => e = .returned (.bool true) ∧ Below w.heap.size w w' := by
  have hT := tab_of h3 h4
  by_cases h : 64 < key.size
  · exact nested_long key msg w hk hm hT h
  · by_cases h2 : key.size = 64
    · exact nested_64 key msg w hk hm hT h2
    · exact nested_short key msg w hk hm hT (by omega)
end Go.Proofs.YtkhcinnpfpkhnaaDoor.MacLaws
