/- ShaPieces: its walk. -/
import Derived.Test.YtkhcinnpfpkhnaaDoorShaParts
import Derived.Test.YtkhcinnpfpkhnaaDoorStrs
set_option linter.unusedVariables false
set_option linter.unusedSimpArgs false
namespace Go.Proofs.YtkhcinnpfpkhnaaDoor.ShaLaws
open Go.RowKit Go.Proofs.YtkhcinnpfpkhnaaDoor.Base Go.Proofs.YtkhcinnpfpkhnaaDoor.ShaPlain Go.Proofs.YtkhcinnpfpkhnaaDoor.Mem Go.Proofs.YtkhcinnpfpkhnaaDoor.ShaTake Go.Proofs.YtkhcinnpfpkhnaaDoor.ShaNew Go.Proofs.YtkhcinnpfpkhnaaDoor.ShaDig Go.Proofs.YtkhcinnpfpkhnaaDoor.ShaSum Go.Proofs.YtkhcinnpfpkhnaaDoor.ShaKit Go.Proofs.YtkhcinnpfpkhnaaDoor.ShaWrite Go.Proofs.YtkhcinnpfpkhnaaDoor.ShaReset Go.Proofs.YtkhcinnpfpkhnaaDoor.Strs

def tot (ss : List ByteArray) (i : Nat) : Nat := ((ss.take i).map ByteArray.size).sum
def cat (ss : List ByteArray) (i : Nat) : ByteArray := (ss.take i).foldl (· ++ ·) ⟨#[]⟩
theorem take_succ' {α : Type} (d : α) (l : List α) (i : Nat) (h : i < l.length) : l.take (i + 1) = l.take i ++ [l.getD i d] := by
  rw [List.take_succ_eq_append_getElem h]
  simp [List.getD_eq_getElem?_getD, h]
theorem tot_succ (ss : List ByteArray) (i : Nat) (h : i < ss.length) : tot ss (i + 1) = tot ss i + (ss.getD i ⟨#[]⟩).size := by rw [tot, take_succ' ⟨#[]⟩ ss i h]; simp [tot]
theorem cat_succ (ss : List ByteArray) (i : Nat) (h : i < ss.length) : cat ss (i + 1) = cat ss i ++ ss.getD i ⟨#[]⟩ := by rw [cat, take_succ' ⟨#[]⟩ ss i h]; simp [cat]
theorem tot_mono (ss : List ByteArray) (i : Nat) (h : i < ss.length) : tot ss i ≤ tot ss (i + 1) := by rw [tot_succ ss i h]; omega
theorem cat_size (ss : List ByteArray) : ∀ i, i ≤ ss.length → (cat ss i).size = tot ss i
  | 0, _ => by simp [cat, tot]; rfl
  | i + 1, h => by rw [cat_succ ss i (by omega), size_app, cat_size ss i (by omega), tot_succ ss i (by omega)]
theorem tot_le (ss : List ByteArray) (i j : Nat) (h : i ≤ j) (hj : j ≤ ss.length) : tot ss i ≤ tot ss j := by
  induction j with
  | zero => obtain rfl : i = 0 := by omega
            exact Nat.le_refl _
  | succ j ih =>
    by_cases e : i = j + 1
    · rw [e]; exact Nat.le_refl _
    · exact Nat.le_trans (ih (by omega) (by omega)) (tot_mono ss j (by omega))
set_option maxHeartbeats 2000000 in
set_option maxRecDepth 100000 in
theorem pieces_in (A : Option Addr) (n c : Nat) (ss : List ByteArray) (w : World) (hC : Came w A n c ss) (hT : Tab w) :
    Calls Tryd.prog 5 #[.slice A n c] w (AllTrue w) := by
  obtain ⟨hS, hnc, hcb, hsz⟩ := hC
  have hn : n ≤ 140737488351232 := by omega
  have HL := Lib.hid hS.len
  have HAB : Hid (∀ ad, 0 < n → A = some ad → ad.block < w.heap.size) := Lib.hid fun ad h0 e => by
    obtain ⟨ad', e', hb, _⟩ := hS.2 h0
    rw [e] at e'; injection e' with e'; rw [e']; exact hb
  have HSZ := Lib.hid hsz
  have HD0 := dig_size ⟨#[]⟩
  clear hsz
  go_enter Tryd.func5, Tryd.ntmps5
  go_wp2_with fail
  refine (newT w hT).mono ?_; rintro e W1 ⟨b1, rfl, hg1, B1, H1⟩
  have T1 := hT.below B1
  have S1 := hS.below B1
  clear hS hT
  go_wp2_with fail
  go_loop [4, 5] (fun s4 s5 => ∃ i : Nat, i ≤ n ∧ s5 = .int .i64 i ∧ s4 = .int .i64 (tot ss i) ∧ tot ss i ≤ 1048576) (fun _ s5 => n - (intOf s5).toNat)
  case atStart => exact ⟨0, by omega, rfl, by rfl, by show 0 ≤ _; omega⟩
  case round =>
    obtain ⟨i, hi, rfl, rfl, ht⟩ := hrel
    by_cases hlt : i < n
    · have hlt' : (i : Int) < (n : Int) := by omega
      obtain ⟨ad, rfl, hab, hc⟩ := S1.at_ i hlt
      have hst := tot_succ ss i (by rw [HL.out]; exact hlt)
      have hps : (ss.getD i ⟨#[]⟩).size ≤ 140737488351232 := by
        rw [List.getD_eq_getElem?_getD, List.getElem?_eq_getElem (by rw [HL.out]; exact hlt)]
        exact HSZ.out _ (List.getElem_mem _)
      generalize ss.getD i ⟨#[]⟩ = p at *
      have HST := Lib.hid hst
      by_cases hb : tot ss (i + 1) ≤ 1048576
      · have hb' : ¬ (1048576 : Int) < (tot ss i : Int) + (p.size : Int) := by omega
        have HB := Lib.hid hb
        clear hst hb
        go_wp2
        go_round
        case rel => exact ⟨i + 1, by omega, by go_num, by rw [HST.out]; go_num, HB.out⟩
        case measure => simp [intOf]; omega
      · have hb' : (1048576 : Int) < (tot ss i : Int) + (p.size : Int) := by omega
        clear hst hb
        go_wp2_with fail
        refine (sumT W1 T1 b1 _ H1 (by decide)).mono ?_; rintro e W2 ⟨rfl, B2⟩
        have BW := Lib.hid (B1.trans (B2.mono B1.size))
        clear B2
        go_wp2
        go_ret
        exact ⟨rfl, BW.out⟩
    · have hin : i = n := by omega
      have hlt' : ¬ (i : Int) < (n : Int) := by omega
      rw [hin] at ht
      have HTL : Hid (∀ j, j ≤ n → tot ss j ≤ 1048576) := Lib.hid fun j hj => Nat.le_trans (tot_le ss j n hj (by rw [HL.out]; exact Nat.le_refl _)) ht
      clear hin
      go_wp2_with fail
      go_loopw [6, 7] (fun s6 s7 wx => ∃ i : Nat, i ≤ n ∧ s7 = .int .i64 i ∧ s6 = .string (cat ss i) ∧ HT wx b1 (cat ss i) ∧ Tab wx ∧ Strs wx A n ss ∧ Below w.heap.size w wx) (fun _ s7 _ => n - (intOf s7).toNat)
      case atStart => exact ⟨0, by omega, rfl, rfl, H1, T1, S1, B1⟩
      case round =>
        obtain ⟨i, hi, rfl, rfl, hH, hTb, hS2, hbl⟩ := hrel
        have hwl := hbl.size
        have hcz0 : (cat ss i).size ≤ 1048576 := by rw [cat_size ss i (by rw [HL.out]; omega)]; exact HTL.out i hi
        by_cases hlt : i < n
        · have hlt' : (i : Int) < (n : Int) := by omega
          obtain ⟨ad, hA, hab, hc⟩ := hS2.at_ i hlt
          have had := HAB.out ad (by omega) hA
          have hcz1 : (cat ss (i + 1)).size ≤ 1048576 := by rw [cat_size ss (i + 1) (by rw [HL.out]; omega)]; exact HTL.out (i + 1) (by omega)
          have hcs := cat_succ ss i (by rw [HL.out]; exact hlt)
          have hpz : (cat ss i).size + (ss.getD i ⟨#[]⟩).size ≤ 1048576 := by rw [← size_app, ← hcs]; exact hcz1
          have hne : some ad.block ≠ some b1 := by intro e; have := Option.some.inj e; omega
          have HSG : Hid (∀ Wx, Grew wr Wx (some b1) → Strs Wx A n ss) := Lib.hid fun Wx hg => hS2.grown hg (fun ad' e => by rw [hA] at e; injection e with e; rw [← e]; exact hne)
          have HCG : Hid (∀ Wx, Grew wr Wx (some b1) → Wx.cell? (ad.add i) = some (.string (ss.getD i ⟨#[]⟩))) := Lib.hid fun Wx hg => (hg.cell _ (by rw [add_block]; exact hab) (by rw [add_block]; exact hne)).trans hc
          subst hA
          have HCS := Lib.hid hcs
          generalize ss.getD i ⟨#[]⟩ = p at *
          have HSA := Lib.hid (size_app (cat ss i) p)
          clear hcs hcz1 hS2
          go_wp2_with fail
          refine (writeT wr hTb b1 _ hH p (by omega)).mono ?_; rintro e W2 ⟨rfl, G2, H2, T2⟩
          have S2 := HSG.out W2 G2
          have c2 := HCG.out W2 G2
          have B2 := belowG hbl G2 hg1
          have hz2 := B2.size
          have HB2 := Lib.hid B2
          clear G2 hbl hH hTb hc
          go_wp2_with fail
          refine (lenT W2 b1 _ H2).mono ?_; rintro e _ ⟨rfl, rfl⟩
          go_wp2_with fail
          refine (sumT W2 T2 b1 _ H2 (by have := HSA.out; omega)).mono ?_; rintro e W3 ⟨rfl, B3⟩
          have T3 := T2.below B3
          have H3 := H2.below B3
          have S3 := S2.below B3
          have B3 := HB2.out.trans (B3.mono hz2)
          have hz3 := B3.size
          clear T2 H2 S2 HB2 B2 c2
          go_wp2_with fail
          refine (shaSum_calls (cat ss i ++ p) (by have := HSA.out; omega) W3 T3).mono ?_; rintro e W4 ⟨rfl, B4⟩
          have T4 := T3.below B4
          have H4 := H3.below B4
          have S4 := S3.below B4
          have B4 := B3.trans (B4.mono hz3)
          rw [← HCS.out] at H4 ⊢
          clear T3 H3 S3 B3
          go_wp2
          go_roundw
          case rel => exact ⟨i + 1, by omega, by go_num, rfl, H4, T4, S4, B4⟩
          case measure => simp [intOf]; omega
        · have hin : i = n := by omega
          have hlt' : ¬ (i : Int) < (n : Int) := by omega
          have hd := dig_size (cat ss i)
          clear hin
          go_wp2_with fail
          refine (sumT wr hTb b1 _ hH (by omega)).mono ?_; rintro e W3 ⟨rfl, B3⟩
          have T3 := hTb.below B3
          have H3 := hH.below B3
          have B3 := hbl.trans (B3.mono hwl)
          have hz3 := B3.size
          clear hTb hH
          go_wp2_with fail
          refine (sumT W3 T3 b1 _ H3 (by omega)).mono ?_; rintro e W4 ⟨rfl, B4⟩
          have T4 := T3.below B4
          have B4 := B3.trans (B4.mono hz3)
          have hz4 := B4.size
          clear T3 H3 B3
          go_wp2_with fail
          refine (shaSum_calls (cat ss i) (by omega) W4 T4).mono ?_; rintro e W5 ⟨rfl, B5⟩
          have B5 := B4.trans (B5.mono hz4)
          clear T4 B4
          go_wp2
          go_ret
          exact ⟨by simp, B5⟩
theorem shaPieces_walk (A : Option Addr) (n c : Nat) (ss : List ByteArray) (w : World) (hC : Came w A n c ss)
    (h3 : ∀ i : Nat, i < 8 → w.cell? ⟨1, i, none⟩ = some (.int .u32 (Ints I0.list i))) (h4 : ∀ i : Nat, i < 64 → w.cell? ⟨3, i, none⟩ = some (.int .u32 (Ints K0 i))) :
    Calls Tryd.prog 5 #[.slice A n c] w fun e w' => e = .returned (.bool true) ∧ Below w.heap.size w w' := pieces_in A n c ss w hC (tab_of h3 h4)
end Go.Proofs.YtkhcinnpfpkhnaaDoor.ShaLaws
