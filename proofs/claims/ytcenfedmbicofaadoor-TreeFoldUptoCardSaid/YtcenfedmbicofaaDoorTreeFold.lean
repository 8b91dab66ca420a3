/- TreeFold: its walk. -/
import Derived.Test.YtcenfedmbicofaaDoorRFold
import Derived.Laws.OwnMore
set_option linter.unusedVariables false
set_option linter.unusedSimpArgs false
namespace Go.Proofs.YtcenfedmbicofaaDoor.Fold
open Go.RowKit Go.Proofs.YtcenfedmbicofaaDoor.Base Go.Proofs.YtcenfedmbicofaaDoor.Mem Go.Proofs.YtcenfedmbicofaaDoor.Strs Go.Proofs.YtcenfedmbicofaaDoor.ShaDig Go.Proofs.YtcenfedmbicofaaDoor.TreeHash

def behind : ByteArray := ⟨#[98, 101, 104, 105, 110, 100]⟩
theorem chainF {w W W' : World} (B : Below w.heap.size w W) (C : Below W.heap.size W W') : Below w.heap.size w W' := B.trans (C.mono B.size)
theorem foldm_any (k : Int) (A : Option Addr) (n c : Nat) (ss : List ByteArray) (w : World) (hS : Strs w A n ss) (hc : n ≤ c) (hn : n ≤ 8796093022208) (hs : Fit ss) (hT : Tab w) :
    Calls Tryd.prog 21 #[.int .i64 k, .slice A n c] w (Gives (foldH k ss) w) := by
  by_cases h0 : n = 0
  · subst h0
    obtain rfl : ss = [] := List.eq_nil_of_length_eq_zero hS.len
    exact Fold.fold_nil k A c w hT
  · exact Fold.fold_calls k A n c ss w hS hc (by omega) hn hs hT
theorem foldr_any (k : Int) (A : Option Addr) (n c : Nat) (ss : List ByteArray) (w : World) (hS : Strs w A n ss) (hc : n ≤ c) (hn : n ≤ 8796093022208) (hs : ∀ s ∈ ss, s.size ≤ 70000000000000) (hT : RTab w) :
    Calls Tryd.prog 22 #[.int .i64 k, .slice A n c] w (Gives (foldH k ss) w) := by
  by_cases h0 : n = 0
  · subst h0
    obtain rfl : ss = [] := List.eq_nil_of_length_eq_zero hS.len
    exact Fold.rfold_nil k A c w hT
  · exact Fold.rfold_calls k A n c ss w hS hc (by omega) hn hs hT
theorem own_shape2 {w : World} {base : Nat} {v : Value} {ss : List ByteArray} (h : Strs.Own w base v ss) (hp : 0 < ss.length) : ∃ g c, v = .slice (some ⟨g, 0, none⟩) ss.length c ∧ base ≤ g ∧ ss.length ≤ c := by
  rcases h.2 with ⟨_, h0⟩ | ⟨g, cap, cur, rfl, hb, _, hnc, _⟩
  · omega
  · exact ⟨g, cap, rfl, hb, hnc⟩
theorem own_len {w : World} {base g n c : Nat} {xs : List ByteArray} (h : Strs.Own w base (.slice (some ⟨g, 0, none⟩) n c) xs) : xs.length = n := by
  rcases h.2 with ⟨h0, _⟩ | ⟨g', cap, cur, h0, _⟩
  · cases h0
  · simp only [Value.slice.injEq] at h0; omega
theorem own_cell {w : World} {base g n c : Nat} {xs : List ByteArray} (h : Strs.Own w base (.slice (some ⟨g, 0, none⟩) n c) xs) (i : Nat) (hi : i < n) : w.cell? ⟨g, i, none⟩ = some (.string (xs.getD i ⟨#[]⟩)) ∧ w.frozen? ⟨g, i, none⟩ = false := by
  have hl := own_len h
  unfold Strs.Own at h
  rw [hl] at h
  refine ⟨?_, h.frozenAt i⟩
  rw [h.cellAt i (by omega)]
  exact sv_get xs i (by omega)
theorem own_set {w : World} {base g n c : Nat} {xs : List ByteArray} (h : Strs.Own w base (.slice (some ⟨g, 0, none⟩) n c) xs) (i : Nat) (s : ByteArray) :
    Strs.Own (w.setCell ⟨g, i, none⟩ (.string s)) base (.slice (some ⟨g, 0, none⟩) n c) (xs.set i s) ∧ w.grownBy (w.setCell ⟨g, i, none⟩ (.string s)) (some g) := by
  have hl := own_len h
  unfold Strs.Own at *
  rw [hl] at h
  obtain ⟨h1, h2⟩ := h.stored i (.string s)
  refine ⟨?_, h2⟩
  rw [List.length_set, hl]
  unfold sv at *
  rw [List.map_set]
  exact h1
theorem own_strsT {w : World} {base g n c : Nat} {ss tl : List ByteArray} (h : Strs.Own w base (.slice (some ⟨g, 0, none⟩) (n + tl.length) c) (ss ++ tl)) (hl : ss.length = n) : Strs w (some ⟨g, 0, none⟩) n ss := by
  obtain ⟨B, c', e, _, hs⟩ := h.shape
  injection e with e1 e2 e3
  subst e1
  rw [show (ss ++ tl).length = n + tl.length by rw [List.length_append, hl]] at hs
  have := hs.take n (by omega)
  rwa [List.take_left' hl] at this
set_option maxRecDepth 100000 in
set_option maxHeartbeats 8000000 in
theorem treeFold_in (k : Int) (A : Option Addr) (n c : Nat) (ss : List ByteArray) (w : World) (hS : Strs w A n ss) (hnc : n ≤ c) (hn : n ≤ 1048576) (hs : ∀ s ∈ ss, s.size ≤ 1048576) (hT : Tab w) (hR : RTab w) :
    Calls Tryd.prog 4 #[.int .i64 k, .slice A n c] w fun e w' => e = .returned (.bool true) ∧ Below w.heap.size w w' := by
  have hl := hS.len
  have HL := Lib.hid hl
  have HN := Lib.hid (Strs.Own.nil w w.heap.size)
  have HS := Lib.hid hS
  have HT := Lib.hid hT
  have HR := Lib.hid hR
  have HSZ := Lib.hid hs
  clear hT hR hs
  go_enter Tryd.func4, Tryd.ntmps4
  go_wp2_with (first
    | (at_builtin; refine wpList_appRow w.heap.size rfl (.const (.slice none 0 0)) (.tmp 10) rfl _ [] ss A n c rfl rfl HN.out HS.out (Below.refl w.heap.size w) (Nat.le_refl _) (by simp; omega) ?_; intro v1 w1 ho1 hb1 _ _; rw [List.nil_append] at ho1; have HO1 := Lib.hid ho1; have HB1 := Lib.hid hb1; have hz1 := hb1.size; clear ho1 hb1)
    | (at_builtin; refine wpList_app1 w.heap.size rfl (.tmp 12) (.tmp 13) rfl _ ss behind rfl rfl HO1.out HB1.out hz1 (by rw [HL.out]; omega) ?_; intro v2 w2 ho2 hb2 _ _; obtain ⟨g, c2, hv2, hg, hnc2⟩ := own_shape2 ho2 (by simp); have hlen : (ss ++ [behind]).length = n + 1 := (by rw [List.length_append, HL.out]; rfl); rw [hlen] at hv2 hnc2; subst hv2; have HO2 := Lib.hid ho2; have HB2 := Lib.hid hb2; have HG := Lib.hid hg; clear ho2 hb2 hlen hg; have hcut := fun W => run_cut_h W (some ⟨g, 0, none⟩) (n + 1) c2 n (by omega)))
  have HF1 := Lib.hid (foldm_any k (some ⟨g, 0, none⟩) n c2 ss w2 (own_strsT (tl := [behind]) HO2.out HL.out) (by omega) (by omega) (fun s h => by have := HSZ.out s h; omega) (HT.out.below HB2.out))
  refine HF1.out.mono ?_
  rintro e w3 ⟨rfl, b3⟩
  have HB3 := Lib.hid (chainF HB2.out b3)
  have HO3 := Lib.hid (HO2.out.below b3)
  have HF2 := Lib.hid (foldr_any k A n c ss w3 (HS.out.below HB3.out) hnc (by omega) (fun s h => by have := HSZ.out s h; omega) (HR.out.below HB3.out))
  clear b3
  go_wp2_with fail
  refine HF2.out.mono ?_
  rintro e w4 ⟨rfl, b4⟩
  have HB4 := Lib.hid (chainF HB3.out b4)
  have HO4 := Lib.hid (HO3.out.below b4)
  clear b4
  generalize foldH k ss = F at *
  go_wp2
  go_loopw [9] (fun i wr => ∃ j : Nat, i = .int .i64 j ∧ j ≤ n ∧ Hid (∃ q, wr = w4.drewN q)) (fun i _ => n - (intOf i).toNat)
  case atStart => exact ⟨0, rfl, by omega, Lib.hid ⟨0, rfl⟩⟩
  case round =>
    obtain ⟨j, rfl, hj, hw⟩ := hrel
    obtain ⟨q, rfl⟩ := hw.out
    clear hw
    by_cases hlt : j < n
    · obtain ⟨ad, hA, _, a1⟩ := (HS.out.below HB4.out).at_ j hlt
      have b1 := (own_cell HO4.out j (by omega)).1
      have hX : (⟨g, 0, none⟩ : Addr).add j = ⟨g, j, none⟩ := Arr.add_plain g j 0 |>.trans (by rw [Nat.zero_add])
      rw [show (ss ++ [behind]).getD j ⟨#[]⟩ = ss.getD j ⟨#[]⟩ by rw [List.getD_eq_getElem?_getD, List.getElem?_append_left (by omega), ← List.getD_eq_getElem?_getD]] at b1
      subst hA
      have hlt' : (j : Int) < (n : Int) := by omega
      have hlt2 : (j : Int) < (n : Int) + 1 := by omega
      clear hl
      generalize ss.getD j ⟨#[]⟩ = x at *
      go_wp2
      go_quiet (fail)
      go_wp2
      go_roundw
      case rel => exact ⟨j + 1, by go_num, by omega, Lib.hid ⟨q + nq, rfl⟩⟩
      case measure => simp only [intOf]; omega
    · obtain rfl : j = n := by omega
      have hm := (own_cell HO4.out j (by omega)).1
      have hX : (⟨g, 0, none⟩ : Addr).add j = ⟨g, j, none⟩ := Arr.add_plain g j 0 |>.trans (by rw [Nat.zero_add])
      rw [show (ss ++ [behind]).getD j ⟨#[]⟩ = behind by rw [List.getD_eq_getElem?_getD, List.getElem?_append_right (by omega), hl, Nat.sub_self]; rfl] at hm
      have hmk : (behind.toList == [98, 101, 104, 105, 110, 100]) = true := by rw [Base.toList_data]; decide
      have HB5 : Hid (Below w.heap.size w (w4.drewN q)) := Lib.hid (chainF HB4.out ⟨rfl, rfl, rfl, Nat.le_refl _, fun _ _ => rfl⟩)
      clear hl
      by_cases h0 : j = 0
      · subst h0
        go_wp2
        go_ret
        exact ⟨by simp, HB5.out⟩
      · obtain ⟨m, rfl⟩ : ∃ m, j = m + 1 := ⟨j - 1, by omega⟩
        have hz0 : ((m : Int) + 1 == 0) = false := by rw [beq_eq_false_iff_ne]; omega
        have cl := (own_cell HO4.out m (by omega)).1
        obtain ⟨c0, f0⟩ := own_cell HO4.out 0 (by omega)
        have hXm : (⟨g, 0, none⟩ : Addr).add m = ⟨g, m, none⟩ := Arr.add_plain g m 0 |>.trans (by rw [Nat.zero_add])
        rw [show (ss ++ [behind]).getD m ⟨#[]⟩ = ss.getD m ⟨#[]⟩ by rw [List.getD_eq_getElem?_getD, List.getElem?_append_left (by have := HL.out; omega), ← List.getD_eq_getElem?_getD]] at cl
        have hls := get_size (M := 1048576) HSZ.out m
        have hmm : (m : Int) < (m : Int) + 1 + 1 := by omega
        have hm0 : (0 : Int) < (m : Int) + 1 + 1 := by omega
        generalize hLAST : ss.getD m ⟨#[]⟩ = last at *
        generalize (ss ++ [behind]).getD 0 ⟨#[]⟩ = first at *
        have hcat : ¬ 9223372036854775807 < last.size + (⟨#[120]⟩ : ByteArray).size := by show ¬ _ < last.size + 1; omega
        have hxs : (last ++ (⟨#[120]⟩ : ByteArray)).size = last.size + 1 := size_app _ _
        obtain ⟨o5, g5⟩ := own_set HO4.out 0 (last ++ (⟨#[120]⟩ : ByteArray))
        rw [List.set_append_left _ _ (by have := HL.out; omega)] at o5
        have HO5 : Hid (Strs.Own ((w4.drewN q).setCell ⟨g, 0, none⟩ (.string (last ++ (⟨#[120]⟩ : ByteArray)))) w.heap.size (.slice (some ⟨g, 0, none⟩) (m + 1 + 1) c2) (ss.set 0 (last ++ (⟨#[120]⟩ : ByteArray)) ++ [behind])) := Lib.hid o5
        have HB6 : Hid (Below w.heap.size w ((w4.drewN q).setCell ⟨g, 0, none⟩ (.string (last ++ (⟨#[120]⟩ : ByteArray))))) := Lib.hid (HB5.out.setCell (p := ⟨g, 0, none⟩) HG.out _)
        have hfit : ∀ s ∈ ss.set 0 (last ++ (⟨#[120]⟩ : ByteArray)), s.size ≤ 1048577 := fun s h => by
          rcases List.mem_or_eq_of_mem_set h with h | h
          · have := HSZ.out s h; omega
          · rw [h, hxs]; omega
        have hl2 : (ss.set 0 (last ++ (⟨#[120]⟩ : ByteArray))).length = m + 1 := by rw [List.length_set]; exact HL.out
        have HFIT := Lib.hid hfit
        have HL2 := Lib.hid hl2
        clear hls hLAST hxs o5 g5 hfit hl2
        generalize hXE : last ++ (⟨#[120]⟩ : ByteArray) = X at *
        generalize ss.set 0 X = ts at *
        have HFC : Hid (∀ W, Strs W (some ⟨g, 0, none⟩) (m + 1) ts → Tab W → Calls Tryd.prog 21 #[.int .i64 k, .slice (some ⟨g, 0, none⟩) (m + 1) c2] W (Gives (foldH k ts) W)) := Lib.hid fun W h1 h2 => foldm_any k (some ⟨g, 0, none⟩) (m + 1) c2 ts W h1 (by omega) (by omega) (fun s h => by have := HFIT.out s h; omega) h2
        have HRC : Hid (∀ v A' c' W, v = .slice A' (m + 1) c' → Strs W A' (m + 1) ts → m + 1 ≤ c' → RTab W → Calls Tryd.prog 22 #[.int .i64 k, v] W (Gives (foldH k ts) W)) := Lib.hid fun v A' c' W e h1 h2 h3 => by rw [e]; exact foldr_any k A' (m + 1) c' ts W h1 h2 (by omega) (fun s h => by have := HFIT.out s h; omega) h3
        generalize foldH k ts = G at *
        go_wp2_with fail
        refine (HFC.out _ (own_strsT (tl := [behind]) HO5.out HL2.out) (HT.out.below HB6.out)).mono ?_
        rintro e w6 ⟨rfl, b6⟩
        have HB7 := Lib.hid (chainF HB6.out b6)
        have HS7 := Lib.hid ((own_strsT (tl := [behind]) HO5.out HL2.out).below b6)
        have HN6 := Lib.hid (Strs.Own.nil w6 w6.heap.size)
        clear b6 cl c0 f0 hX hXm
        go_wp2_with (at_builtin; refine wpList_appRow w6.heap.size rfl (.const (.slice none 0 0)) (.tmp 79) rfl _ [] ts (some ⟨g, 0, none⟩) (m + 1) c2 rfl rfl HN6.out HS7.out (Below.refl w6.heap.size w6) (Nat.le_refl _) (by simp; omega) ?_; intro v8 w8 ho8 hb8 _ _; rw [List.nil_append] at ho8; have HO8 := Lib.hid ho8; have HB8 := Lib.hid (chainF HB7.out hb8); clear ho8 hb8)
        obtain ⟨A8, c8, hv8, hc8, hs8⟩ := Strs.Own.shape HO8.out
        rw [HL2.out] at hv8 hc8 hs8
        refine (HRC.out v8 A8 c8 w8 hv8 hs8 hc8 (HR.out.below HB8.out)).mono ?_
        rintro e w9 ⟨rfl, b9⟩
        have HB9 := Lib.hid (chainF HB8.out b9)
        clear b9 hv8 hs8
        go_wp2
        go_ret
        exact ⟨by simp, HB9.out⟩
theorem treeFold_walk (k : Int) (A : Option Addr) (n c : Nat) (ss : List ByteArray) (w : World) (_ : (Lit.int .i64 k).wf = true) (hC : Came w A n c ss) (u1 : ∀ s ∈ ss, s.size ≤ 1048576) (u2 : ss.length ≤ 1048576)
    (h1 : ∀ i : Nat, i < 8 → w.cell? ⟨0, i, none⟩ = some (.int .u32 ((I0.list.map fun x : Nat => (x : Int)).getD i 0))) (h2 : ∀ i : Nat, i < 64 → w.cell? ⟨1, i, none⟩ = some (.int .u32 ((K0.map fun x : Nat => (x : Int)).getD i 0)))
    (h3 : ∀ i : Nat, i < 8 → w.cell? ⟨2, i, none⟩ = some (.int .u32 ((I0.list.map fun x : Nat => (x : Int)).getD i 0))) (h4 : ∀ i : Nat, i < 64 → w.cell? ⟨3, i, none⟩ = some (.int .u32 ((K0.map fun x : Nat => (x : Int)).getD i 0))) :
    Calls Tryd.prog 4 #[.int .i64 k, .slice A n c] w fun e w' => e = .returned (.bool true) ∧ Below w.heap.size w w' :=
  treeFold_in k A n c ss w hC.1 hC.2.1 (by have := hC.1.len; omega) u1 (tab_of h3 h4) (rtab_of h1 h2)
end Go.Proofs.YtcenfedmbicofaaDoor.Fold
