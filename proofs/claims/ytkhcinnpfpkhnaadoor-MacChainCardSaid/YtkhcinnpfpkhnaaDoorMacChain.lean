/- MacChain: its walk. -/
import Derived.Test.YtkhcinnpfpkhnaaDoorMacNested
import Derived.Deep.RegionLaw
import Derived.IntWalk
set_option linter.unusedVariables false
set_option linter.unusedSimpArgs false
namespace Go.Proofs.YtkhcinnpfpkhnaaDoor.MacLaws
open Go.RowKit Go.Lib Go.Proofs.YtkhcinnpfpkhnaaDoor.Base Go.Proofs.YtkhcinnpfpkhnaaDoor.ShaPlain Go.Proofs.YtkhcinnpfpkhnaaDoor.Mem Go.Proofs.YtkhcinnpfpkhnaaDoor.Buf Go.Proofs.YtkhcinnpfpkhnaaDoor.ShaDig Go.Proofs.YtkhcinnpfpkhnaaDoor.Mac Go.Proofs.YtkhcinnpfpkhnaaDoor.MacRef Go.Proofs.YtkhcinnpfpkhnaaDoor.MacSame Go.Proofs.YtkhcinnpfpkhnaaDoor.MacDerive Go.Proofs.YtkhcinnpfpkhnaaDoor.ShaLaws

theorem acc_take (key label : ByteArray) (c i : Nat) (h : i ≤ c) : (nbN (acc key label c)).take (32 * i) = nbN (acc key label i) := by
  induction c with
  | zero =>
    obtain rfl : i = 0 := by omega
    rfl
  | succ c ih =>
    by_cases e : i = c + 1
    · rw [e, List.take_of_length_le (by rw [nbN_length, acc_size]; exact Nat.le_refl _)]
    · rw [acc, nbN_append, List.take_append_of_le_length (by rw [nbN_length, acc_size]; omega), ih (by omega)]
theorem derive_nb (key label : ByteArray) (n : Nat) : nbN (derive key label n) = (nbN (acc key label (cdiv n))).take n := by
  rw [derive, nbN_extract]; simp
theorem derive_prefix (key label : ByteArray) (n m : Nat) (h : n ≤ m) : (derive key label m).extract 0 n = derive key label n := by
  apply nbN_inj
  rw [nbN_extract, derive_nb, derive_nb]
  have hc : cdiv n ≤ cdiv m := by unfold cdiv; omega
  have hn : n ≤ 32 * cdiv n := by unfold cdiv; omega
  rw [← acc_take key label (cdiv m) (cdiv n) hc, List.take_take, Nat.min_eq_left hn]
  simp [List.take_take, Nat.min_eq_left h]
theorem derive_part (key label : ByteArray) (m j : Nat) (h : 32 * (j + 1) ≤ m) : (derive key label m).extract (32 * j) (32 * (j + 1)) = nth key label (j + 1) := by
  apply nbN_inj
  have hc : j + 1 ≤ cdiv m := by unfold cdiv; omega
  have e : (nbN (derive key label m)).take (32 * (j + 1)) = nbN (acc key label (j + 1)) := by
    rw [derive_nb, List.take_take, Nat.min_eq_left h, acc_take _ _ _ _ hc]
  rw [nbN_extract, List.extract_eq_take_drop, ← List.drop_take, e, acc, nbN_append, List.drop_append_of_le_length (by rw [nbN_length, acc_size]; exact Nat.le_refl _), List.drop_of_length_le (by rw [nbN_length, acc_size]; exact Nat.le_refl _), List.nil_append]
set_option maxHeartbeats 2000000 in
set_option maxRecDepth 100000 in
theorem chain_in (key label : ByteArray) (N M : Int) (n m : Nat) (w : World) (hk : key.size ≤ 140737488351232) (hl : label.size ≤ 140737488351232) (hT : Tab w) (hnm : n ≤ m) (hm : m ≤ 8160)
    (hc : N = n ∧ M = m ∨ N = m ∧ M = n ∧ n < m) :
    Calls Tryd.prog 14 #[.string key, .string label, .int .i64 N, .int .i64 M] w (AllTrue w) := by
  have HD : Hid (∀ (k : Nat) (W : World), k ≤ 8160 → Below w.heap.size w W → Calls Tryd.prog 36 #[.string key, .string label, .int .i64 (k : Int)] W (Derived key label k W)) :=
    Lib.hid fun k W hk' h => derive_calls key label k hk hl hk' W (hT.below h)
  have HM : Hid (∀ (s : ByteArray) (W : World), s.size ≤ 800000000000000 → Below w.heap.size w W → Calls Tryd.prog 30 #[.string key, .string s] W (Gives (mac key s) W)) :=
    Lib.hid fun s W hs h => macSum_calls key s (by omega) hs W (hT.below h)
  have hs1 := derive_size key label n
  have hs2 := derive_size key label m
  have hsl := slice_h (P := Tryd.prog) (derive key label m) 9 Tryd.underlying9 n (by rw [hs2]; exact hnm)
  rw [derive_prefix key label n m hnm] at hsl
  have HMZ := Lib.hid (mac_size key ⟨#[]⟩)
  clear hT
  rcases hc with ⟨rfl, rfl⟩ | ⟨rfl, rfl, hlt⟩
  all_goals
    go_enter Tryd.func14, Tryd.ntmps14
    go_wp2_with fail
    refine (HD.out n w (by omega) (Below.refl _ _)).mono ?_; rintro e W1 ⟨rfl, B1⟩
    have hz1 := B1.size
    go_wp2_with fail
    refine (HD.out m W1 (by omega) B1).mono ?_; rintro e W2 ⟨rfl, C2⟩
    have B2 := B1.trans (C2.mono hz1)
    have hz2 := B2.size
    clear C2 B1
    go_wp2_with fail
    clear hsl
    go_loopw [15, 16] (fun s15 s16 wx => ∃ j : Nat, 32 * j ≤ m ∧ s16 = .int .i64 ((j + 1 : Nat) : Int) ∧ s15 = .string (nth key label j) ∧ Below w.heap.size w wx) (fun _ s16 _ => 300 - (intOf s16).toNat)
    case atStart => exact ⟨0, by omega, rfl, rfl, B2⟩
    case round =>
      obtain ⟨j, hj, rfl, rfl, hbl⟩ := hrel
      have hwl := hbl.size
      by_cases hlt : 32 * (j + 1) ≤ m
      · have h1 : ((j + 1 : Nat) : Int) ≤ 255 := by omega
        have h2 : 32 * ((j + 1 : Nat) : Int) ≤ (m : Int) := by omega
        have hns := nth_le key label j
        have hs3 := size_app (nth key label j) label
        have hs4 := Lib.hid (size_app (nth key label j ++ label) (byte (j + 1)))
        have hby := byte_size (j + 1)
        have hcv : (convert 57 9 (.slice (some ⟨wr.heap.size, 0, none⟩) 1 1)).run Tryd.prog (wr.alloc (.cells #[.int .u8 ((j : Int) + 1)] 5)).drew = .ok (.string (byte (j + 1))) (wr.alloc (.cells #[.int .u8 ((j : Int) + 1)] 5)).drew := byte_conv wr.drew (j + 1)
        have hsl := fun w => slice_lh (P := Tryd.prog) w 9 (derive key label m) Tryd.underlying9 (32 * j) (32 * (j + 1)) (by omega) (by rw [hs2]; exact hlt)
        rw [derive_part key label m j hlt] at hsl
        have hsl2 : ∀ w, (Instr.slice 9 (.string (derive key label m)) (some (.int .i64 (32 * ((j : Int) + 1) - 32))) (some (.int .i64 (32 * ((j : Int) + 1)))) none).run Tryd.prog w = .ok (.string (nth key label (j + 1))) w := fun w => by
          have := hsl w
          rwa [show ((32 * j : Nat) : Int) = 32 * ((j : Int) + 1) - 32 by omega, show ((32 * (j + 1) : Nat) : Int) = 32 * ((j : Int) + 1) by omega] at this
        have HSL2 := Lib.hid hsl2
        obtain ⟨q, hq⟩ : ∃ q : Nat, q = 32 * (j + 1) := ⟨_, rfl⟩
        obtain ⟨p, hp⟩ : ∃ p : Nat, p = 32 * j := ⟨_, rfl⟩
        rw [← hq, ← hp] at hsl
        have hr : mac key (nth key label j ++ label ++ byte (j + 1)) = nth key label (j + 1) := rfl
        have HR := Lib.hid hr
        have hqm : q ≤ m := by omega
        have hcA : ¬ 9223372036854775807 < (nth key label j).size + label.size := by omega
        have hcB : ¬ 9223372036854775807 < (nth key label j).size + label.size + 1 := by omega
        have hsz5 : (nth key label j ++ label ++ byte (j + 1)).size ≤ 800000000000000 := by have := hs4.out; omega
        have HBW : Hid (∀ W1, Below (wr.alloc (.cells #[.int .u8 ((j : Int) + 1)] 5)).heap.size (wr.alloc (.cells #[.int .u8 ((j : Int) + 1)] 5)).drew W1 → Below w.heap.size w W1) := Lib.hid fun W1 h => ((hbl.alloc hwl _).drew).trans (h.mono (by simp; omega))
        have HBD := Lib.hid ((hbl.alloc hwl (.cells #[.int .u8 ((j : Int) + 1)] 5)).drew)
        have hw1 : IntKind.i64.wrap (32 * ((j : Int) + 1)) = (q : Int) := by rw [IntWalk.i64_in _ (by omega)]; omega
        have hw2 : IntKind.i64.wrap ((q : Int) - 32) = (p : Int) := by rw [IntWalk.i64_in _ (by omega)]; omega
        have hw3 : IntKind.u8.wrap ((j : Int) + 1) = (j : Int) + 1 := by rw [IntKind.wrap_u8]; omega
        clear hq hp hr hsl2
        have HN : Hid (mac key (nth key label j ++ label ++ byte (j + 1)) = nth key label (j + 1)) := Lib.hid rfl
        go_wp2_with fail
        go_region_law (first | (go_simp; go_at_call 30; refine (HM.out (nth key label j ++ label ++ byte (j + 1)) _ hsz5 (by exact HBD.out)).mono ?_; rintro e W1 ⟨rfl, C1⟩; rw [HR.out]))
        all_goals
          have B1 := HBW.out _ C1
          clear C1 hcv hsl hw1 hw2 hw3 hbl
          have hsl2 := HSL2.out
          go_wp2
          go_roundw
          case rel => exact ⟨j + 1, by omega, by go_num, rfl, B1⟩
          case measure => simp [intOf]; omega
      · have h2 : ¬ 32 * ((j + 1 : Nat) : Int) ≤ (m : Int) := by omega
        have hne : (mac key ⟨#[]⟩).toList.isEmpty = false := by
          rw [List.isEmpty_eq_false_iff]
          intro e
          have := HMZ.out
          rw [Base.toList_data] at e
          have e2 := congrArg List.length e
          rw [Array.length_toList] at e2
          exact absurd (this.symm.trans e2) (by decide)
        by_cases h255 : ((j + 1 : Nat) : Int) ≤ 255
        all_goals
          go_wp2_with fail
          refine (HM.out ⟨#[]⟩ wr (by decide) hbl).mono ?_; rintro e W1 ⟨rfl, C1⟩
          have B1 := hbl.trans (C1.mono hwl)
          clear C1 hbl
          go_wp2
          go_ret
          exact ⟨by simp [hne], B1⟩
set_option maxHeartbeats 1000000 in
theorem chain_no (key label : ByteArray) (N M : Int) (w : World) (hc : N < 0 ∨ (0 ≤ N ∧ M < 0) ∨ (0 ≤ N ∧ 0 ≤ M ∧ 8160 < N) ∨ (0 ≤ N ∧ 0 ≤ M ∧ N ≤ 8160 ∧ 8160 < M)) :
    Calls Tryd.prog 14 #[.string key, .string label, .int .i64 N, .int .i64 M] w (AllTrue w) := by
  have HD := Lib.hid (derive_no key label (-1) (.inl (by decide)) w)
  rcases hc with h | ⟨h1, h⟩ | ⟨h1, h2, h⟩ | ⟨h1, h2, h3, h⟩
  all_goals
    go_enter Tryd.func14, Tryd.ntmps14
    go_wp2_with fail
    refine HD.out.mono ?_; rintro e W1 ⟨rfl, B1⟩
    go_wp2
    go_ret
    exact ⟨rfl, B1⟩
theorem macChain_walk (key label : ByteArray) (N M : Int) (w : World) (hk : key.size ≤ 140737488351232) (hl : label.size ≤ 140737488351232) (_ : (Lit.int .i64 N).wf = true) (_ : (Lit.int .i64 M).wf = true)
    (h3 : ∀ i : Nat, i < 8 → w.cell? ⟨1, i, none⟩ = some (.int .u32 (Ints I0.list i))) (h4 : ∀ i : Nat, i < 64 → w.cell? ⟨3, i, none⟩ = some (.int .u32 (Ints K0 i))) :
    Calls Tryd.prog 14 #[.string key, .string label, .int .i64 N, .int .i64 M] w fun e w' => e = .returned (.bool true) ∧ Below w.heap.size w w' := by
  have hT := tab_of h3 h4
  by_cases h : N < 0 ∨ (0 ≤ N ∧ M < 0) ∨ (0 ≤ N ∧ 0 ≤ M ∧ 8160 < N) ∨ (0 ≤ N ∧ 0 ≤ M ∧ N ≤ 8160 ∧ 8160 < M)
  · exact chain_no key label N M w h
  · by_cases h2 : N ≤ M
    · exact chain_in key label N M N.toNat M.toNat w hk hl hT (by omega) (by omega) (.inl ⟨by omega, by omega⟩)
    · exact chain_in key label N M M.toNat N.toNat w hk hl hT (by omega) (by omega) (.inr ⟨by omega, by omega, by omega⟩)
end Go.Proofs.YtkhcinnpfpkhnaaDoor.MacLaws
