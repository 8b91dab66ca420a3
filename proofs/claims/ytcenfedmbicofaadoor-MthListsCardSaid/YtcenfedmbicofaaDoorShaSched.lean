/- The document's schedule: its walk. -/
import Derived.Test.YtcenfedmbicofaaDoorShaWords
set_option linter.unusedVariables false
set_option linter.unusedSimpArgs false
namespace Go.Proofs.YtcenfedmbicofaaDoor.ShaSched
open Go.RowKit Go.Proofs.YtcenfedmbicofaaDoor.Base Go.Proofs.YtcenfedmbicofaaDoor.ShaPlain Go.Proofs.YtcenfedmbicofaaDoor.ShaRot Go.Proofs.YtcenfedmbicofaaDoor.Arr Go.Proofs.YtcenfedmbicofaaDoor.Mem Go.Proofs.YtcenfedmbicofaaDoor.ShaWords

/-- The bytes lie in memory, from a place on. -/
def Bytes (w : World) (g o : Nat) (bs : List Nat) : Prop := (∀ j, j < bs.length → w.cell? ⟨g, o + j, none⟩ = some (.int .u8 (bs.getD j 0 : Int))) ∧ g < w.heap.size
theorem Bytes.grown {w wx : World} {g o : Nat} {bs : List Nat} (h : Bytes w g o bs) (hg : Grew w wx none) : Bytes wx g o bs :=
  ⟨fun j hj => (hg.cell ⟨g, o + j, none⟩ h.2 (by simp)).trans (h.1 j hj), Nat.lt_of_lt_of_le h.2 hg.size⟩
theorem take4 (l : List Nat) (i : Nat) (h : i + 4 ≤ l.length) : (l.drop i).take 4 = [l.getD i 0, l.getD (i + 1) 0, l.getD (i + 2) 0, l.getD (i + 3) 0] := by
  apply List.ext_getElem
  · simp; omega
  · intro j h1 h2
    simp only [List.getElem_take, List.getElem_drop, List.getD_eq_getElem?_getD]
    have hj : j < 4 := by simpa using h2
    match j, hj with
    | 0, _ => simp [List.getElem?_eq_getElem (show i < l.length by omega)]
    | 1, _ => simp [List.getElem?_eq_getElem (show i + 1 < l.length by omega)]
    | 2, _ => simp [List.getElem?_eq_getElem (show i + 2 < l.length by omega)]
    | 3, _ => simp [List.getElem?_eq_getElem (show i + 3 < l.length by omega)]
theorem part4 (l : List Nat) (p i : Nat) (h : p + 64 ≤ l.length) (hi : i + 4 ≤ 64) : (((l.drop p).take 64).drop i).take 4 = [l.getD (p + i) 0, l.getD (p + i + 1) 0, l.getD (p + i + 2) 0, l.getD (p + i + 3) 0] := by
  rw [← take4 l (p + i) (by omega), List.drop_take, List.take_take, List.drop_drop, Nat.min_eq_left (by omega)]
theorem getD_lt {l : List Nat} (h : ∀ x ∈ l, x < 256) (i : Nat) : l.getD i 0 < 256 := by
  rw [List.getD_eq_getElem?_getD]
  by_cases hi : i < l.length
  · rw [List.getElem?_eq_getElem hi]; exact h _ (List.getElem_mem hi)
  · rw [List.getElem?_eq_none (by omega)]; exact (by decide : (0 : Nat) < 256)
set_option maxHeartbeats 4000000 in
set_option maxRecDepth 1000000 in
theorem sched_calls (g o p cap : Nat) (bs : List Nat) (hB : ∀ x ∈ bs, x < 256) (hlen : bs.length ≤ 1000000000000000000) (hp : p + 64 ≤ bs.length) (w : World) (hbs : Bytes w g o bs) :
    Calls Tryd.prog 80 #[.slice (some ⟨g, o, none⟩) bs.length cap, .int .i64 (p : Int)] w (Words (words ((bs.drop p).take 64)) w) := by
  have hblk : ∀ x ∈ (bs.drop p).take 64, x < 256 := fun x hx => hB x (List.mem_of_mem_drop (List.mem_of_mem_take hx))
  obtain ⟨hz, hi⟩ := zero_of_info info
  have HI := Lib.hid hi
  clear hi
  go_enter Tryd.func80, Tryd.ntmps80
  go_wp2
  have ha0 : Row ((w.alloc (.cells (arr []) 104)).alloc (.cells (arr []) 104)) w.heap.size (arr []) 104 := (Row.new _ _ _).alloc _
  have ha1 : Row ((w.alloc (.cells (arr []) 104)).alloc (.cells (arr []) 104)) (w.heap.size + 1) (arr []) 104 := by
    have := Row.new (w.alloc (.cells (arr []) 104)) (arr []) 104
    simpa using this
  have hg0 : Grew w ((w.alloc (.cells (arr []) 104)).alloc (.cells (arr []) 104)) none := ((Grew.refl w none).alloc _).alloc _
  rw [← arr_nil]
  generalize hwa : (w.alloc (.cells (arr []) 104)).alloc (.cells (arr []) 104) = wa at *
  clear hwa hz
  have hge : w.heap.size ≤ w.heap.size + 1 := by omega
  generalize hg1 : w.heap.size + 1 = g1 at *
  have hge' : w.heap.size ≤ w.heap.size := Nat.le_refl _
  generalize hg0' : w.heap.size = g0 at ha0 hge' ⊢
  have HW := Lib.hid (show g0 ≠ g1 by omega)
  have HB := Lib.hid hblk
  go_loopw [6] (fun s10 wx => ∃ k : Nat, k ≤ 16 ∧ s10 = .int .i64 k ∧ Grew w wx none ∧ Row wx g0 (arr []) 104 ∧ Row wx g1 (arr (base ((bs.drop p).take 64) k)) 104) (fun s10 _ => 16 - (intOf s10).toNat)
  case atStart => exact ⟨0, by omega, rfl, hg0, ha0, ha1⟩
  case round =>
    obtain ⟨k, hk, rfl, hg, h0, h1⟩ := hrel
    by_cases hlt : k < 16
    · have hlt' : (k : Int) < 16 := by omega
      have hc : wr.cell? ⟨g1, k, none⟩ = some (.int .u32 ((base ((bs.drop p).take 64) k).getD k 0 : Int)) := (h1.cell k).trans (arr_get _ _ (by omega))
      have hf := h1.free k
      have hbw := hbs.grown hg
      have k0 := hbw.1 (p + 4 * k) (by omega)
      have k1 := hbw.1 (p + 4 * k + 1) (by omega)
      have k2 := hbw.1 (p + 4 * k + 2) (by omega)
      have k3 := hbw.1 (p + 4 * k + 3) (by omega)
      have HN : ∃ v, v = num ((((bs.drop p).take 64).drop (4 * k)).take 4) ∧ Calls Tryd.prog 90 #[.slice (some ⟨g, o, none⟩) bs.length cap, .int .i64 ((p + 4 * k : Nat) : Int)] wr (fun e w' => e = .returned (.int .u32 (v : Int)) ∧ ∃ m, w' = wr.drewN m) :=
        ⟨_, rfl, by
          rw [part4 bs p (4 * k) hp (by omega)]
          exact word_calls g o (p + 4 * k) bs.length cap _ _ _ _ (getD_lt hB _) (getD_lt hB _) (getD_lt hB _) (getD_lt hB _) (by omega) hlen wr k0 k1 k2 k3⟩
      obtain ⟨v, hv, HN⟩ := HN
      rw [show ((p + 4 * k : Nat) : Int) = (p : Int) + 4 * (k : Int) by omega] at HN
      clear k0 k1 k2 k3 hbw
      have hbc := base_succ ((bs.drop p).take 64) k
      have hst := arr_set (base ((bs.drop p).take 64) k) v (by rw [base_length]; omega)
      rw [← hv] at hbc
      rw [← hbc, base_length] at hst
      have H1 : Hid (∀ m, Grew w ((wr.drewN m).setCell ⟨g1, k, none⟩ (.int .u32 (v : Int))) none ∧ Row ((wr.drewN m).setCell ⟨g1, k, none⟩ (.int .u32 (v : Int))) g0 (arr []) 104 ∧ Row ((wr.drewN m).setCell ⟨g1, k, none⟩ (.int .u32 (v : Int))) g1 (arr (base ((bs.drop p).take 64) (k + 1))) 104) :=
        Lib.hid fun m => ⟨(hg.drewN m).set _ (by simp; omega) _, (h0.drewN m).far _ HW.out _, by rw [← hst]; exact (h1.drewN m).set _ _⟩
      have HN := Lib.hid HN
      clear hst hbc hv hg h0 h1 hbs
      go_wp2_with fail
      refine (HN.out).mono ?_; rintro e w' ⟨rfl, m, rfl⟩
      go_wp2_with fail
      go_roundw
      case rel => exact ⟨k + 1, by omega, by go_num, H1.out _⟩
      case measure => simp [intOf]; omega
    · have hk16 : k = 16 := by omega
      rw [hk16] at h1
      have hlt' : ¬ (k : Int) < 16 := by omega
      have HS := Lib.hid (base_small ((bs.drop p).take 64) HB.out 16)
      have HBL := Lib.hid (base_length ((bs.drop p).take 64) 16)
      have HE : Hid (words ((bs.drop p).take 64) = more (base ((bs.drop p).take 64) 16) 48) := rfl
      generalize base ((bs.drop p).take 64) 16 = b0 at *
      generalize words ((bs.drop p).take 64) = wd at *
      clear hlt HB hk16
      go_wp2
      go_loopw [7] (fun s5 wx => ∃ t : Nat, 16 ≤ t ∧ t ≤ 64 ∧ s5 = .int .i64 t ∧ Grew w wx none ∧ Row wx g0 (arr []) 104 ∧ Row wx g1 (arr (more b0 (t - 16))) 104) (fun s5 _ => 64 - (intOf s5).toNat)
      case atStart => exact ⟨16, by omega, by omega, rfl, hg, h0, h1⟩
      case round =>
        obtain ⟨t, ht0, ht1, rfl, hg, h0, h1⟩ := hrel
        by_cases hlt : t < 64
        · have hlt' : (t : Int) < 64 := by omega
          have hml := more_length b0 (t - 16)
          rw [HBL.out] at hml
          have hml2 : (more b0 (t - 16)).length = t := by omega
          have hsm := more_small HS.out (t - 16)
          have hc : ∀ j, j < 64 → wr.cell? ⟨g1, j, none⟩ = some (.int .u32 ((more b0 (t - 16)).getD j 0 : Int)) := fun j hj => (h1.cell j).trans (arr_get _ _ hj)
          have hf := h1.free t
          have hst := arr_set (more b0 (t - 16)) (nw (more b0 (t - 16))) (by omega)
          have hmo : more b0 (t - 16) ++ [nw (more b0 (t - 16))] = more b0 (t + 1 - 16) := by rw [show t + 1 - 16 = (t - 16) + 1 by omega]; rfl
          rw [hmo, hml2] at hst
          have hnw : nw (more b0 (t - 16)) = add (add (add (s1 ((more b0 (t - 16)).getD (t - 2) 0)) ((more b0 (t - 16)).getD (t - 7) 0)) (s0 ((more b0 (t - 16)).getD (t - 15) 0))) ((more b0 (t - 16)).getD (t - 16) 0) := by
            unfold nw; rw [hml2]
          have c0 := hc t hlt
          have c1 := hc (t - 15) (by omega)
          have c2 := hc (t - 2) (by omega)
          have c3 := hc (t - 7) (by omega)
          have c4 := hc (t - 16) (by omega)
          have l1 := hsm.getD (t - 15)
          have l2 := hsm.getD (t - 2)
          have l3 := hsm.getD (t - 7)
          have l4 := hsm.getD (t - 16)
          have H1 : Hid (∀ m, Grew w ((wr.drewN m).setCell ⟨g1, t, none⟩ (.int .u32 (nw (more b0 (t - 16)) : Int))) none ∧ Row ((wr.drewN m).setCell ⟨g1, t, none⟩ (.int .u32 (nw (more b0 (t - 16)) : Int))) g0 (arr []) 104 ∧ Row ((wr.drewN m).setCell ⟨g1, t, none⟩ (.int .u32 (nw (more b0 (t - 16)) : Int))) g1 (arr (more b0 (t + 1 - 16))) 104) :=
            Lib.hid fun m => ⟨(hg.drewN m).set _ (.inl hge) _, (h0.drewN m).far _ HW.out _, by rw [← hst]; exact (h1.drewN m).set _ _⟩
          clear hst hmo hc hsm
          generalize (more b0 (t - 16)).getD t 0 = x0 at *
          generalize (more b0 (t - 16)).getD (t - 15) 0 = x at *
          generalize (more b0 (t - 16)).getD (t - 2) 0 = y at *
          generalize (more b0 (t - 16)).getD (t - 7) 0 = p at *
          generalize (more b0 (t - 16)).getD (t - 16) 0 = q at *
          have hs0 : s0 x = rot 7 x ^^^ rot 18 x ^^^ x / 8 := rfl
          have hs1 : s1 y = rot 17 y ^^^ rot 19 y ^^^ y / 1024 := rfl
          have T7 := Lib.hid fun W => rotr_calls 7 x (by decide) (by decide) l1 W
          have T18 := Lib.hid fun W => rotr_calls 18 x (by decide) (by decide) l1 W
          have T17 := Lib.hid fun W => rotr_calls 17 y (by decide) (by decide) l2 W
          have T19 := Lib.hid fun W => rotr_calls 19 y (by decide) (by decide) l2 W
          have e1 := xorw (rot 7 x) (rot 18 x) (rot_lt 7 l1) (rot_lt 18 l1)
          have e2 := xorw (rot 7 x ^^^ rot 18 x) (x / 8) (xor_lt' (k := 32) (rot_lt 7 l1) (rot_lt 18 l1)) (div_lt' 8 l1)
          have e3 := xorw (rot 17 y) (rot 19 y) (rot_lt 17 l2) (rot_lt 19 l2)
          have e4 := xorw (rot 17 y ^^^ rot 19 y) (y / 1024) (xor_lt' (k := 32) (rot_lt 17 l2) (rot_lt 19 l2)) (div_lt' 1024 l2)
          rw [← hs0, show ((x / 8 : Nat) : Int) = (x : Int) / 8 by omega] at e2
          rw [← hs1, show ((y / 1024 : Nat) : Int) = (y : Int) / 1024 by omega] at e4
          have l5 := s0_lt l1
          have l6 := s1_lt l2
          generalize rot 7 x = r7 at *
          generalize rot 18 x = r18 at *
          generalize rot 17 y = r17 at *
          generalize rot 19 y = r19 at *
          generalize r7 ^^^ r18 = z1 at *
          generalize r17 ^^^ r19 = z2 at *
          generalize s0 x = v0 at *
          generalize s1 y = v1 at *
          unfold add at hnw
          have hnw' : (((v1 : Int) + p + v0 + q) % 4294967296 : Int) = (nw (more b0 (t - 16)) : Int) := by omega
          generalize nw (more b0 (t - 16)) = nx at *
          have HNX := Lib.hid hnw'
          clear hs0 hs1 hnw hnw' hml hml2
          go_wp2_with fail
          refine (T7.out _).mono ?_; rintro e w' ⟨rfl, rfl⟩
          go_wp2_with fail
          refine (T18.out _).mono ?_; rintro e w' ⟨rfl, rfl⟩
          go_wp2_with fail
          refine (T17.out _).mono ?_; rintro e w' ⟨rfl, rfl⟩
          go_wp2_with fail
          refine (T19.out _).mono ?_; rintro e w' ⟨rfl, rfl⟩
          go_wp2_with fail
          go_region
          rw [HNX.out]
          go_wp2
          go_roundw
          case rel => exact ⟨t + 1, by omega, by omega, by go_num, H1.out _⟩
          case measure => simp [intOf]; omega
        · obtain rfl : t = 64 := by omega
          rw [show 64 - 16 = 48 by decide, ← HE.out] at h1
          have hsz := arr_size wd
          have hz0 := arr_size []
          have h00 : Row (wr.setRow g0 (arr wd)) g0 (arr wd) 104 := h0.put _
          have hgf : Grew w (wr.setRow g0 (arr wd)) none := hg.put g0 (.inl (by omega)) _
          go_wp2_with (first | (refine wpList_put_row rfl 104 _ _ rfl g0 rfl (arr wd) rfl 104 (arr []) h0 (by rw [hsz]; exact HI.out) (by rw [hsz, hz0]) (arr_one _) ?_) | refine wpList_load_row rfl 104 _ rfl g1 rfl 104 (arr wd) (0, 0) _ h1 Tryd.underlying104 rfl (by rw [hsz]; exact HI.out) ?_)
          (try simp only [Exit.inBlock, Exit.then])
          refine bodyPost_ret (v := .agg (arr wd)) (results_cell_row rfl _ _ g0 104 (arr wd) (0, 0) _ rfl h00 Tryd.underlying104 rfl (by rw [hsz]; exact HI.out)) rfl ⟨rfl, hgf⟩
end Go.Proofs.YtcenfedmbicofaaDoor.ShaSched
