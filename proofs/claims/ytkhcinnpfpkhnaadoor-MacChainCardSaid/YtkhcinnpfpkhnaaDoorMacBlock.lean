/- The statement's block, and MacNested: their walks. -/
import Derived.Test.YtkhcinnpfpkhnaaDoorMacLaws
set_option linter.unusedVariables false
set_option linter.unusedSimpArgs false
namespace Go.Proofs.YtkhcinnpfpkhnaaDoor.MacLaws
open Go.RowKit Go.Lib Go.Proofs.YtkhcinnpfpkhnaaDoor.Base Go.Proofs.YtkhcinnpfpkhnaaDoor.ShaPlain Go.Proofs.YtkhcinnpfpkhnaaDoor.Mem Go.Proofs.YtkhcinnpfpkhnaaDoor.Buf Go.Proofs.YtkhcinnpfpkhnaaDoor.ShaDig Go.Proofs.YtkhcinnpfpkhnaaDoor.Mac Go.Proofs.YtkhcinnpfpkhnaaDoor.MacRef Go.Proofs.YtkhcinnpfpkhnaaDoor.MacSame Go.Proofs.YtkhcinnpfpkhnaaDoor.MacDerive Go.Proofs.YtkhcinnpfpkhnaaDoor.ShaLaws

/-- A store into owned bytes. -/
theorem Buf_store {w : World} {base g cap n : Nat} {bs : List Nat} (hn : bs.length = n) (h : Buf w base (.slice (some ⟨g, 0, none⟩) n cap) bs) (i y : Nat) (hi : i < n) :
    Buf (w.setCell ⟨g, i, none⟩ (.int .u8 (y : Int))) base (.slice (some ⟨g, 0, none⟩) n cap) (bs.set i y) ∧ base ≤ g := by
  rcases h with ⟨h1, _⟩ | ⟨g', cap', h1, h2, h3, h4, h5, h6⟩
  · cases h1
  · injection h1 with h1 hl hc
    injection h1 with h1
    injection h1 with h1
    subst h1 hc
    refine ⟨.inr ⟨g, cap, by rw [List.length_set, hn], h2, by rw [List.length_set]; exact h3, fun j hj => ?_, fun j hj => ⟨?_, ?_⟩, by simpa [World.setCell] using h6⟩, h2⟩
    · rw [List.length_set] at hj
      by_cases e : j = i
      · subst e
        obtain ⟨old, ho⟩ := Option.isSome_iff_exists.1 (h5 j (by omega)).1
        rw [World.cell?_setCell_same (h := ho)]
        simp [List.getD_eq_getElem?_getD, hj]
      · rw [World.cell?_setCell_other _ _ _ _ (by intro e2; injection e2 with _ e3 _; exact e e3.symm), h4 j hj]
        simp [List.getD_eq_getElem?_getD, List.getElem?_set_ne (Ne.symm e)]
    · by_cases e : j = i
      · subst e
        obtain ⟨old, ho⟩ := Option.isSome_iff_exists.1 (h5 j hj).1
        rw [World.cell?_setCell_same (h := ho)]; rfl
      · rw [World.cell?_setCell_other _ _ _ _ (by intro e2; injection e2 with _ e3 _; exact e e3.symm)]; exact (h5 j hj).1
    · rw [World.frozen?_setCell]; exact (h5 j hj).2
theorem part_set' (l : List Nat) (x i : Nat) (h : i < l.length) : (Mac.part l x i).set i (l.getD i 0 ^^^ x) = Mac.part l x (i + 1) := by
  unfold Mac.part
  rw [List.set_append_right _ _ (by simp; omega), List.take_succ_eq_append_getElem h, List.map_append, List.append_assoc]
  congr 1
  rw [List.length_map, List.length_take, Nat.min_eq_left (Nat.le_of_lt h), Nat.sub_self, List.drop_eq_getElem_cons h, List.set_cons_zero, List.getD_eq_getElem?_getD, List.getElem?_eq_getElem h]
  rfl
theorem Buf_cell {w : World} {base g cap n : Nat} {bs : List Nat} (h : Buf w base (.slice (some ⟨g, 0, none⟩) n cap) bs) (i : Nat) (hi : i < bs.length) : w.cell? ⟨g, i, none⟩ = some (.int .u8 (bs.getD i 0 : Int)) ∧ w.frozen? ⟨g, i, none⟩ = false := by
  rcases h with ⟨h1, _⟩ | ⟨g', cap', h1, h2, h3, h4, h5, h6⟩
  · cases h1
  · injection h1 with h1 hl hc
    injection h1 with h1
    injection h1 with h1
    subst h1 hc
    exact ⟨h4 i hi, (h5 i (by omega)).2⟩
set_option maxHeartbeats 2000000 in
set_option maxRecDepth 100000 in
theorem block_calls (key : ByteArray) (hk : key.size ≤ 800000000000000) (x : Nat) (hx : x < 256) (w : World) (hT : Tab w) :
    Calls Tryd.prog 31 #[.string key, .int .u8 (x : Int)] w (Gives (mix key x) w) := by
  have HS : Hid (∀ (s : ByteArray) (W : World), s.size ≤ 900000000000000 → Below w.heap.size w W → Calls Tryd.prog 21 #[.string s] W (Gives (dig s) W)) :=
    Lib.hid fun s W hs hb => shaSum_calls s hs W (hT.below hb)
  have HLEN := Lib.hid (blk_length key)
  have HBY := Lib.hid (blk_byte key)
  have HMX : Hid (txt ((blk key).map fun b => b ^^^ x) = mix key x) := Lib.hid rfl
  clear hT
  by_cases h : 64 < key.size
  · have HKL := Lib.hid (keyL_long key h)
    have hds := dig_size key
    have hcv := fun W => Lib.run_convert_string_bytes (P := Tryd.prog) W 9 57 5 (dig key) Tryd.underlying9 Tryd.underlying57 Tryd.underlying5
    go_enter Tryd.func31, Tryd.ntmps31
    go_wp2_with fail
    refine (HS.out key w (by omega) (Below.refl _ _)).mono ?_; rintro e W0 ⟨rfl, B0⟩
    have hsz : (dig key).size ≤ 64 := by omega
    have hds' := Lib.hid hds
    clear hds
    generalize dig key = k at *
    go_wp2_with fail
    have hb0 := Buf.ofText W0 5 k
    have HL0 := Lib.hid (B0.trans ((below_ofText W0 5 k).mono B0.size))
    have hle := HL0.out.size
    have HNL := Lib.hid (nbN_length k)
    have hwb := (below_ofText W0 5 k).size
    have hbw0 := Lib.hid B0.size
    clear B0 hcv
    generalize grownCap W0 k.size 0 5 = cap0 at *
    generalize Lib.bytesWorld W0 5 k = wb at *
    obtain ⟨base, HBS⟩ : ∃ base, Hid (W0.heap.size = base) := ⟨_, Lib.hid rfl⟩
    have hbw : w.heap.size ≤ base := by rw [← HBS.out]; exact hbw0.out
    rw [HBS.out] at hb0 hwb ⊢
    have HB0 := Lib.hid hb0
    clear hb0
    go_loopw [5] (fun s5 wx => ∃ (j : Nat) (bs : List Nat), k.size + j ≤ 64 ∧ Hid (bs = nbN k ++ List.replicate j 0) ∧ bs.length = k.size + j ∧ Buf wx base s5 bs ∧ base ≤ wx.heap.size ∧ Below w.heap.size w wx) (fun s5 _ => match s5 with | .slice _ l _ => 64 - l | _ => 0)
    case atStart => exact ⟨0, nbN k, by omega, Lib.hid (by simp), HNL.out, HB0.out, hwb, HL0.out⟩
    case round =>
      obtain ⟨j, bs, hj, hb, hbl, hbuf, hba, hbw2⟩ := hrel
      obtain ⟨A, cap, rfl⟩ := hbuf.shape
      have hwl := hbw2.size
      by_cases hlt : k.size + j < 64
      · have hbl' := Lib.hid hbl
        have hlt' : ((k.size : Int) + (j : Int)) < 64 := by omega
        rw [hbl] at hbuf ⊢
        clear hbl
        have HB := Lib.hid hbuf
        have HW := Lib.hid hbw2
        have HX : Hid (bs ++ [0] = nbN k ++ List.replicate (j + 1) 0) := Lib.hid (by rw [hb.out, List.append_assoc, List.replicate_succ'])
        clear hbuf hbw2 hb
        go_wp2_with (at_builtin; refine wpList_buf rfl (.tmp 17) (.tmp 18) rfl base _ bs rfl (HB.out.alloc _) ⟨wr.heap.size, 0, none⟩ 1 1 [0] rfl rfl (cell_new1 wr _ _ 0 rfl) (by rw [hbl'.out]; omega) (by simp; omega) ?_; intro v' w' hbuf' hbw')
        go_roundw
        case rel => exact ⟨j + 1, bs ++ [0], by omega, HX, by rw [List.length_append, hbl'.out]; rfl, hbuf', Nat.le_trans hba (Nat.le_trans (by simp) hbw'.size), (HW.out.alloc hwl _).trans (hbw'.mono hbw)⟩
        case measure =>
          obtain ⟨A2, cap2, rfl⟩ := hbuf'.shape
          simp [hbl'.out]; omega
      · have hjz : j = 64 - k.size := by omega
        have hlt' : ¬ ((bs.length : Int) < 64) := by omega
        have hfin : bs = blk key := by rw [hb.out, hjz, blk, HKL.out, HNL.out]
        rw [hfin, HLEN.out] at hbuf
        rw [hfin, HLEN.out] at hlt' ⊢
        obtain ⟨g, rfl⟩ : ∃ g, A = some ⟨g, 0, none⟩ := by
          rcases hbuf with ⟨h1, _⟩ | ⟨g, c, h1, _⟩
          · cases h1
          · injection h1 with h1; exact ⟨g, h1⟩
        clear hb hjz hfin hbl
        go_wp2_with fail
        go_loopw [6] (fun s6 wx => ∃ i : Nat, i ≤ 64 ∧ s6 = .int .i64 i ∧ Buf wx base (.slice (some ⟨g, 0, none⟩) 64 cap) (Mac.part (blk key) x i) ∧ Below w.heap.size w wx) (fun s6 _ => 64 - (intOf s6).toNat)
        case atStart => exact ⟨0, by omega, rfl, by rw [part_zero]; exact hbuf, hbw2⟩
        case round =>
          obtain ⟨i, hi, rfl, hbf, hbl⟩ := hrel
          by_cases hlt2 : i < 64
          · have hlt3 : (i : Int) < 64 := by omega
            have hil : i < (blk key).length := by rw [HLEN.out]; exact hlt2
            obtain ⟨c1, f1⟩ := Buf_cell hbf i (by rw [part_length]; exact hil)
            rw [part_get _ _ _ hil] at c1
            have hxr := xor8 ((blk key).getD i 0) x (by rw [List.getD_eq_getElem?_getD, List.getElem?_eq_getElem hil]; exact HBY.out _ (List.getElem_mem hil)) hx
            have HP : Hid (∀ wy, wy = wr.setCell ⟨g, i, none⟩ (.int .u8 (((blk key).getD i 0 ^^^ x : Nat) : Int)) → Buf wy base (.slice (some ⟨g, 0, none⟩) 64 cap) (Mac.part (blk key) x (i + 1)) ∧ Below w.heap.size w wy) := Lib.hid fun wy e => by
              subst e
              have := Buf_store (by rw [part_length, HLEN.out]) hbf i ((blk key).getD i 0 ^^^ x) hlt2
              rw [part_set' _ _ _ hil] at this
              exact ⟨this.1, hbl.setCell (p := ⟨g, i, none⟩) (Nat.le_trans hbw this.2) _⟩
            generalize (blk key).getD i 0 = b at *
            clear hbf hbl hil
            go_wp2
            go_roundw
            case rel => exact ⟨i + 1, by omega, by go_num, HP.out _ rfl⟩
            case measure => simp [intOf]; omega
          · have hi64 : i = 64 := by omega
            have hlt3 : ¬ (i : Int) < 64 := by omega
            rw [hi64, part_all _ x 64 HLEN.out.symm] at hbf
            have hlm : ((blk key).map fun b => b ^^^ x).length = 64 := by rw [List.length_map, HLEN.out]
            have hcl : ∀ j, j < 64 → wr.cell? ⟨g, 0 + j, none⟩ = some (.int .u8 ((((blk key).map fun b => b ^^^ x).map fun x : Nat => (x : Int)).getD j 0)) := by
              intro j hj
              rw [Nat.zero_add, (Buf_cell hbf j (by rw [hlm]; exact hj)).1, getD_ints]
            have hcv := run_convert_bytes_arg (P := Tryd.prog) wr 57 5 Tryd.underlying57 Tryd.underlying5 g 0 64 cap (((blk key).map fun b => b ^^^ x).map fun x : Nat => (x : Int)) (by rw [List.length_map, hlm]) hcl 9 Tryd.underlying9
            have HV : Hid (strOfNums (((blk key).map fun b => b ^^^ x).map fun x : Nat => (x : Int)) = mix key x) := Lib.hid rfl
            generalize strOfNums (((blk key).map fun b => b ^^^ x).map fun x : Nat => (x : Int)) = st at *
            clear hbf hcl hlm
            go_wp2
            go_ret
            exact ⟨by rw [HV.out]; rfl, hbl⟩
  · have HKL := Lib.hid (keyL_short key (by omega))
    have B0 := Below.refl w.heap.size w
    have hcv := fun W => Lib.run_convert_string_bytes (P := Tryd.prog) W 9 57 5 key Tryd.underlying9 Tryd.underlying57 Tryd.underlying5
    go_enter Tryd.func31, Tryd.ntmps31
    go_wp2_with fail
    have hb0 := Buf.ofText w 5 key
    have HL0 := Lib.hid (B0.trans ((below_ofText w 5 key).mono B0.size))
    have hle := HL0.out.size
    have HNL := Lib.hid (nbN_length key)
    have hwb := (below_ofText w 5 key).size
    have hbw0 := Lib.hid B0.size
    clear B0 hcv
    generalize grownCap w key.size 0 5 = cap0 at *
    generalize Lib.bytesWorld w 5 key = wb at *
    obtain ⟨base, HBS⟩ : ∃ base, Hid (w.heap.size = base) := ⟨_, Lib.hid rfl⟩
    have hbw : w.heap.size ≤ base := by rw [← HBS.out]; exact hbw0.out
    rw [HBS.out] at hb0 hwb ⊢
    have HB0 := Lib.hid hb0
    clear hb0
    go_loopw [5] (fun s5 wx => ∃ (j : Nat) (bs : List Nat), key.size + j ≤ 64 ∧ Hid (bs = nbN key ++ List.replicate j 0) ∧ bs.length = key.size + j ∧ Buf wx base s5 bs ∧ base ≤ wx.heap.size ∧ Below w.heap.size w wx) (fun s5 _ => match s5 with | .slice _ l _ => 64 - l | _ => 0)
    case atStart => exact ⟨0, nbN key, by omega, Lib.hid (by simp), HNL.out, HB0.out, hwb, HL0.out⟩
    case round =>
      obtain ⟨j, bs, hj, hb, hbl, hbuf, hba, hbw2⟩ := hrel
      obtain ⟨A, cap, rfl⟩ := hbuf.shape
      have hwl := hbw2.size
      by_cases hlt : key.size + j < 64
      · have hbl' := Lib.hid hbl
        have hlt' : ((key.size : Int) + (j : Int)) < 64 := by omega
        rw [hbl] at hbuf ⊢
        clear hbl
        have HB := Lib.hid hbuf
        have HW := Lib.hid hbw2
        have HX : Hid (bs ++ [0] = nbN key ++ List.replicate (j + 1) 0) := Lib.hid (by rw [hb.out, List.append_assoc, List.replicate_succ'])
        clear hbuf hbw2 hb
        go_wp2_with (at_builtin; refine wpList_buf rfl (.tmp 17) (.tmp 18) rfl base _ bs rfl (HB.out.alloc _) ⟨wr.heap.size, 0, none⟩ 1 1 [0] rfl rfl (cell_new1 wr _ _ 0 rfl) (by rw [hbl'.out]; omega) (by simp; omega) ?_; intro v' w' hbuf' hbw')
        go_roundw
        case rel => exact ⟨j + 1, bs ++ [0], by omega, HX, by rw [List.length_append, hbl'.out]; rfl, hbuf', Nat.le_trans hba (Nat.le_trans (by simp) hbw'.size), (HW.out.alloc hwl _).trans (hbw'.mono hbw)⟩
        case measure =>
          obtain ⟨A2, cap2, rfl⟩ := hbuf'.shape
          simp [hbl'.out]; omega
      · have hjz : j = 64 - key.size := by omega
        have hlt' : ¬ ((bs.length : Int) < 64) := by omega
        have hfin : bs = blk key := by rw [hb.out, hjz, blk, HKL.out, HNL.out]
        rw [hfin, HLEN.out] at hbuf
        rw [hfin, HLEN.out] at hlt' ⊢
        obtain ⟨g, rfl⟩ : ∃ g, A = some ⟨g, 0, none⟩ := by
          rcases hbuf with ⟨h1, _⟩ | ⟨g, c, h1, _⟩
          · cases h1
          · injection h1 with h1; exact ⟨g, h1⟩
        clear hb hjz hfin hbl
        go_wp2_with fail
        go_loopw [6] (fun s6 wx => ∃ i : Nat, i ≤ 64 ∧ s6 = .int .i64 i ∧ Buf wx base (.slice (some ⟨g, 0, none⟩) 64 cap) (Mac.part (blk key) x i) ∧ Below w.heap.size w wx) (fun s6 _ => 64 - (intOf s6).toNat)
        case atStart => exact ⟨0, by omega, rfl, by rw [part_zero]; exact hbuf, hbw2⟩
        case round =>
          obtain ⟨i, hi, rfl, hbf, hbl⟩ := hrel
          by_cases hlt2 : i < 64
          · have hlt3 : (i : Int) < 64 := by omega
            have hil : i < (blk key).length := by rw [HLEN.out]; exact hlt2
            obtain ⟨c1, f1⟩ := Buf_cell hbf i (by rw [part_length]; exact hil)
            rw [part_get _ _ _ hil] at c1
            have hxr := xor8 ((blk key).getD i 0) x (by rw [List.getD_eq_getElem?_getD, List.getElem?_eq_getElem hil]; exact HBY.out _ (List.getElem_mem hil)) hx
            have HP : Hid (∀ wy, wy = wr.setCell ⟨g, i, none⟩ (.int .u8 (((blk key).getD i 0 ^^^ x : Nat) : Int)) → Buf wy base (.slice (some ⟨g, 0, none⟩) 64 cap) (Mac.part (blk key) x (i + 1)) ∧ Below w.heap.size w wy) := Lib.hid fun wy e => by
              subst e
              have := Buf_store (by rw [part_length, HLEN.out]) hbf i ((blk key).getD i 0 ^^^ x) hlt2
              rw [part_set' _ _ _ hil] at this
              exact ⟨this.1, hbl.setCell (p := ⟨g, i, none⟩) (Nat.le_trans hbw this.2) _⟩
            generalize (blk key).getD i 0 = b at *
            clear hbf hbl hil
            go_wp2
            go_roundw
            case rel => exact ⟨i + 1, by omega, by go_num, HP.out _ rfl⟩
            case measure => simp [intOf]; omega
          · have hi64 : i = 64 := by omega
            have hlt3 : ¬ (i : Int) < 64 := by omega
            rw [hi64, part_all _ x 64 HLEN.out.symm] at hbf
            have hlm : ((blk key).map fun b => b ^^^ x).length = 64 := by rw [List.length_map, HLEN.out]
            have hcl : ∀ j, j < 64 → wr.cell? ⟨g, 0 + j, none⟩ = some (.int .u8 ((((blk key).map fun b => b ^^^ x).map fun x : Nat => (x : Int)).getD j 0)) := by
              intro j hj
              rw [Nat.zero_add, (Buf_cell hbf j (by rw [hlm]; exact hj)).1, getD_ints]
            have hcv := run_convert_bytes_arg (P := Tryd.prog) wr 57 5 Tryd.underlying57 Tryd.underlying5 g 0 64 cap (((blk key).map fun b => b ^^^ x).map fun x : Nat => (x : Int)) (by rw [List.length_map, hlm]) hcl 9 Tryd.underlying9
            have HV : Hid (strOfNums (((blk key).map fun b => b ^^^ x).map fun x : Nat => (x : Int)) = mix key x) := Lib.hid rfl
            generalize strOfNums (((blk key).map fun b => b ^^^ x).map fun x : Nat => (x : Int)) = st at *
            clear hbf hcl hlm
            go_wp2
            go_ret
            exact ⟨by rw [HV.out]; rfl, hbl⟩
end Go.Proofs.YtkhcinnpfpkhnaaDoor.MacLaws
