/- sha.words and the document's schedule: their walks. -/
import Derived.Test.YtcenfedmbicofaaDoorShaRot
import Derived.Test.YtcenfedmbicofaaDoorMem
set_option linter.unusedVariables false
set_option linter.unusedSimpArgs false
namespace Go.Proofs.YtcenfedmbicofaaDoor.ShaWords
open Go.RowKit Go.Proofs.YtcenfedmbicofaaDoor.Base Go.Proofs.YtcenfedmbicofaaDoor.ShaPlain Go.Proofs.YtcenfedmbicofaaDoor.ShaRot Go.Proofs.YtcenfedmbicofaaDoor.Arr Go.Proofs.YtcenfedmbicofaaDoor.Mem

/-- Words as an array of 64. -/
def arr (l : List Nat) : Array Value := ((List.range 64).map fun j => Value.int .u32 (l.getD j 0 : Int)).toArray
theorem arr_size (l : List Nat) : (arr l).size = 64 := by simp [arr]
theorem arr_nil : arr [] = Array.replicate 64 (.int .u32 0) := by
  apply Array.ext
  · simp [arr]
  · intro i h1 h2; simp [arr]
theorem arr_get (l : List Nat) (j : Nat) (h : j < 64) : (arr l)[j]? = some (.int .u32 (l.getD j 0 : Int)) := by
  rw [Array.getElem?_eq_getElem (by rw [arr_size]; exact h)]
  simp [arr]
theorem arr_set (l : List Nat) (v : Nat) (h : l.length < 64) : (arr l).setIfInBounds l.length (.int .u32 (v : Int)) = arr (l ++ [v]) := by
  apply Array.ext
  · simp [arr]
  · intro i h1 h2
    rw [Array.getElem_setIfInBounds (by rw [arr_size]; rw [arr_size] at h2; exact h2)]
    by_cases e : l.length = i
    · subst e; simp [arr]
    · rw [if_neg e]
      simp only [arr, List.getElem_toArray, List.getElem_map, List.getElem_range]
      rw [List.getD_eq_getElem?_getD, List.getD_eq_getElem?_getD, List.getElem?_append]
      by_cases h3 : i < l.length
      · rw [if_pos h3]
      · rw [if_neg h3, List.getElem?_eq_none (by omega), List.getElem?_eq_none (by simp; omega)]
theorem arr_one (l : List Nat) : (arr l).all (·.oneCell') = true := by
  rw [Array.all_eq_true]
  intro i hi
  simp only [arr, List.getElem_toArray, List.getElem_map, List.getElem_range]
  rfl
theorem info : (Tryd.prog.info? 104).map (fun i => (i.zero, i.size)) = some (some (.agg (Array.replicate 64 (.int .u32 0))), 64) := by kernel_rfl
def Words (l : List Nat) (w : World) (e : Ending) (w' : World) : Prop := e = .returned (.agg (arr l)) ∧ Grew w w' none
theorem xorw (a b : Nat) (ha : a < 4294967296) (hb : b < 4294967296) : Go.bits .xor .u32 (a : Int) (b : Int) = ((a ^^^ b : Nat) : Int) := u32_xor_nat a b ha hb
set_option maxHeartbeats 4000000 in
set_option maxRecDepth 1000000 in
theorem words_calls (s : ByteArray) (hs : s.size = 64) (w : World) : Calls Tryd.prog 91 #[.string s] w (Words (words (nbN s)) w) := by
  obtain ⟨hz, hi⟩ := zero_of_info info
  have HI := Lib.hid hi
  clear hi
  go_enter Tryd.func91, Tryd.ntmps91
  go_wp2
  have ha0 : Row ((w.alloc (.cells (arr []) 104)).alloc (.cells (arr []) 104)) w.heap.size (arr []) 104 := (Row.new _ _ _).alloc _
  have ha1 : Row ((w.alloc (.cells (arr []) 104)).alloc (.cells (arr []) 104)) (w.heap.size + 1) (arr []) 104 := by
    have := Row.new (w.alloc (.cells (arr []) 104)) (arr []) 104
    simpa using this
  have hg0 : Grew w ((w.alloc (.cells (arr []) 104)).alloc (.cells (arr []) 104)) none := ((Grew.refl w none).alloc _).alloc _
  rw [← arr_nil]
  generalize hwa : (w.alloc (.cells (arr []) 104)).alloc (.cells (arr []) 104) = wa at *
  clear hwa hz
  have hge : w.heap.size ≤ w.heap.size + 1 := by omega
  generalize hg1 : w.heap.size + 1 = g1 at *
  have hge' : w.heap.size ≤ w.heap.size := Nat.le_refl _
  generalize hg0' : w.heap.size = g0 at ha0 hge' ⊢
  have HW := Lib.hid (show g0 ≠ g1 by omega)
  have HB := Lib.hid (show ∀ x ∈ nbN s, x < 256 from fun _ h => nbN_byte h)
  have HL := Lib.hid (nbN_length s)
  go_loopw [10] (fun s10 wx => ∃ k : Nat, k ≤ 16 ∧ s10 = .int .i64 k ∧ Grew w wx none ∧ Row wx g0 (arr []) 104 ∧ Row wx g1 (arr (base (nbN s) k)) 104) (fun s10 _ => 16 - (intOf s10).toNat)
  case atStart => exact ⟨0, by omega, rfl, hg0, ha0, ha1⟩
  case round =>
    obtain ⟨k, hk, rfl, hg, h0, h1⟩ := hrel
    by_cases hlt : k < 16
    · have hlt' : (k : Int) < 16 := by omega
      have hc : wr.cell? ⟨g1, k, none⟩ = some (.int .u32 ((base (nbN s) k).getD k 0 : Int)) := (h1.cell k).trans (arr_get _ _ (by omega))
      have hf := h1.free k
      have HN := fun W => number_calls (s.extract (4 * k) (4 * k + 4)) (by rw [ByteArray.size_extract]; omega) W
      have hn : num (nbN (s.extract (4 * k) (4 * k + 4))) = num (((nbN s).drop (4 * k)).take 4) := by
        rw [nbN_extract, List.extract_eq_take_drop, show 4 * k + 4 - 4 * k = 4 by omega]
      rw [hn] at HN
      have hbs := base_succ (nbN s) k
      have hst := arr_set (base (nbN s) k) (num (((nbN s).drop (4 * k)).take 4)) (by rw [base_length]; omega)
      rw [← hbs, base_length] at hst
      generalize num (((nbN s).drop (4 * k)).take 4) = v at *
      have H1 : Hid (Grew w (wr.setCell ⟨g1, k, none⟩ (.int .u32 (v : Int))) none ∧ Row (wr.setCell ⟨g1, k, none⟩ (.int .u32 (v : Int))) g0 (arr []) 104 ∧ Row (wr.setCell ⟨g1, k, none⟩ (.int .u32 (v : Int))) g1 (arr (base (nbN s) (k + 1))) 104) :=
        Lib.hid ⟨hg.set _ (by simp; omega) _, h0.far _ HW.out _, by rw [← hst]; exact h1.set _ _⟩
      have HN := Lib.hid HN
      have hsl := fun W => slice_lh (P := Tryd.prog) W 9 s Tryd.underlying9 (4 * k) (4 * k + 4) (by omega) (by omega)
      rw [show ((4 * k : Nat) : Int) = 4 * (k : Int) by omega, show ((4 * k + 4 : Nat) : Int) = 4 * (k : Int) + 4 by omega] at hsl
      clear hst hbs hn hg h0 h1
      go_wp2_with fail
      refine (HN.out _).mono ?_; rintro e w' ⟨rfl, rfl⟩
      go_wp2_with fail
      go_roundw
      case rel => exact ⟨k + 1, by omega, by go_num, H1.out⟩
      case measure => simp [intOf]; omega
    · have hk16 : k = 16 := by omega
      rw [hk16] at h1
      have hlt' : ¬ (k : Int) < 16 := by omega
      have HS := Lib.hid (base_small (nbN s) HB.out 16)
      have HBL := Lib.hid (base_length (nbN s) 16)
      have HE : Hid (words (nbN s) = more (base (nbN s) 16) 48) := rfl
      generalize base (nbN s) 16 = b0 at *
      generalize words (nbN s) = wd at *
      clear hlt HB HL hk16
      go_wp2
      go_loopw [5] (fun s5 wx => ∃ t : Nat, 16 ≤ t ∧ t ≤ 64 ∧ s5 = .int .i64 t ∧ Grew w wx none ∧ Row wx g0 (arr []) 104 ∧ Row wx g1 (arr (more b0 (t - 16))) 104) (fun s5 _ => 64 - (intOf s5).toNat)
      case atStart => exact ⟨16, by omega, by omega, rfl, hg, h0, h1⟩
      case round =>
        obtain ⟨t, ht0, ht1, rfl, hg, h0, h1⟩ := hrel
        by_cases hlt : t < 64
        · have hlt' : (t : Int) < 64 := by omega
          have hml := more_length b0 (t - 16)
          rw [HBL.out] at hml
          have hml2 : (more b0 (t - 16)).length = t := by omega
          have hsm := more_small HS.out (t - 16)
          have hc : ∀ j, j < 64 → wr.cell? ⟨g1, j, none⟩ = some (.int .u32 ((more b0 (t - 16)).getD j 0 : Int)) := fun j hj => (h1.cell j).trans (arr_get _ _ hj)
          have hf := h1.free t
          have hst := arr_set (more b0 (t - 16)) (nw (more b0 (t - 16))) (by omega)
          have hmo : more b0 (t - 16) ++ [nw (more b0 (t - 16))] = more b0 (t + 1 - 16) := by rw [show t + 1 - 16 = (t - 16) + 1 by omega]; rfl
          rw [hmo, hml2] at hst
          have hnw : nw (more b0 (t - 16)) = add (add (add (s1 ((more b0 (t - 16)).getD (t - 2) 0)) ((more b0 (t - 16)).getD (t - 7) 0)) (s0 ((more b0 (t - 16)).getD (t - 15) 0))) ((more b0 (t - 16)).getD (t - 16) 0) := by
            unfold nw; rw [hml2]
          have c0 := hc t hlt
          have c1 := hc (t - 15) (by omega)
          have c2 := hc (t - 2) (by omega)
          have c3 := hc (t - 7) (by omega)
          have c4 := hc (t - 16) (by omega)
          have l1 := hsm.getD (t - 15)
          have l2 := hsm.getD (t - 2)
          have l3 := hsm.getD (t - 7)
          have l4 := hsm.getD (t - 16)
          have H1 : Hid (∀ m, Grew w ((wr.drewN m).setCell ⟨g1, t, none⟩ (.int .u32 (nw (more b0 (t - 16)) : Int))) none ∧ Row ((wr.drewN m).setCell ⟨g1, t, none⟩ (.int .u32 (nw (more b0 (t - 16)) : Int))) g0 (arr []) 104 ∧ Row ((wr.drewN m).setCell ⟨g1, t, none⟩ (.int .u32 (nw (more b0 (t - 16)) : Int))) g1 (arr (more b0 (t + 1 - 16))) 104) :=
            Lib.hid fun m => ⟨(hg.drewN m).set _ (.inl hge) _, (h0.drewN m).far _ HW.out _, by rw [← hst]; exact (h1.drewN m).set _ _⟩
          clear hst hmo hc hsm
          generalize (more b0 (t - 16)).getD t 0 = x0 at *
          generalize (more b0 (t - 16)).getD (t - 15) 0 = x at *
          generalize (more b0 (t - 16)).getD (t - 2) 0 = y at *
          generalize (more b0 (t - 16)).getD (t - 7) 0 = p at *
          generalize (more b0 (t - 16)).getD (t - 16) 0 = q at *
          have hs0 : s0 x = rot 7 x ^^^ rot 18 x ^^^ x / 8 := rfl
          have hs1 : s1 y = rot 17 y ^^^ rot 19 y ^^^ y / 1024 := rfl
          have T7 := Lib.hid fun W => turned_calls 7 x (by decide) (by decide) l1 W
          have T18 := Lib.hid fun W => turned_calls 18 x (by decide) (by decide) l1 W
          have T17 := Lib.hid fun W => turned_calls 17 y (by decide) (by decide) l2 W
          have T19 := Lib.hid fun W => turned_calls 19 y (by decide) (by decide) l2 W
          have e1 := xorw (rot 7 x) (rot 18 x) (rot_lt 7 l1) (rot_lt 18 l1)
          have e2 := xorw (rot 7 x ^^^ rot 18 x) (x / 8) (xor_lt' (k := 32) (rot_lt 7 l1) (rot_lt 18 l1)) (div_lt' 8 l1)
          have e3 := xorw (rot 17 y) (rot 19 y) (rot_lt 17 l2) (rot_lt 19 l2)
          have e4 := xorw (rot 17 y ^^^ rot 19 y) (y / 1024) (xor_lt' (k := 32) (rot_lt 17 l2) (rot_lt 19 l2)) (div_lt' 1024 l2)
          rw [← hs0, show ((x / 8 : Nat) : Int) = (x : Int) / 8 by omega] at e2
          rw [← hs1, show ((y / 1024 : Nat) : Int) = (y : Int) / 1024 by omega] at e4
          have l5 := s0_lt l1
          have l6 := s1_lt l2
          generalize rot 7 x = r7 at *
          generalize rot 18 x = r18 at *
          generalize rot 17 y = r17 at *
          generalize rot 19 y = r19 at *
          generalize r7 ^^^ r18 = z1 at *
          generalize r17 ^^^ r19 = z2 at *
          generalize s0 x = v0 at *
          generalize s1 y = v1 at *
          unfold add at hnw
          have hnw' : (((v1 : Int) + p + v0 + q) % 4294967296 : Int) = (nw (more b0 (t - 16)) : Int) := by omega
          generalize nw (more b0 (t - 16)) = nx at *
          have HNX := Lib.hid hnw'
          clear hs0 hs1 hnw hnw' hml hml2
          go_wp2_with fail
          go_quiet (fail)
          go_wp2_with fail
          refine (T7.out _).mono ?_; rintro e w' ⟨rfl, rfl⟩
          go_wp2_with fail
          refine (T18.out _).mono ?_; rintro e w' ⟨rfl, rfl⟩
          go_wp2_with fail
          refine (T17.out _).mono ?_; rintro e w' ⟨rfl, rfl⟩
          go_wp2_with fail
          refine (T19.out _).mono ?_; rintro e w' ⟨rfl, rfl⟩
          go_wp2_with fail
          go_region
          rw [HNX.out]
          go_wp2
          go_roundw
          case rel => exact ⟨t + 1, by omega, by omega, by go_num, H1.out _⟩
          case measure => simp [intOf]; omega
        · obtain rfl : t = 64 := by omega
          rw [show 64 - 16 = 48 by decide, ← HE.out] at h1
          have hsz := arr_size wd
          have hz0 := arr_size []
          have h00 : Row (wr.setRow g0 (arr wd)) g0 (arr wd) 104 := h0.put _
          have hgf : Grew w (wr.setRow g0 (arr wd)) none := hg.put g0 (.inl (by omega)) _
          go_wp2_with (first | (refine wpList_put_row rfl 104 _ _ rfl g0 rfl (arr wd) rfl 104 (arr []) h0 (by rw [hsz]; exact HI.out) (by rw [hsz, hz0]) (arr_one _) ?_) | refine wpList_load_row rfl 104 _ rfl g1 rfl 104 (arr wd) (0, 0) _ h1 Tryd.underlying104 rfl (by rw [hsz]; exact HI.out) ?_)
          (try simp only [Exit.inBlock, Exit.then])
          refine bodyPost_ret (v := .agg (arr wd)) (results_cell_row rfl _ _ g0 104 (arr wd) (0, 0) _ rfl h00 Tryd.underlying104 rfl (by rw [hsz]; exact HI.out)) rfl ⟨rfl, hgf⟩
end Go.Proofs.YtcenfedmbicofaaDoor.ShaWords
