/- The document's Sum and Cut: their walks. -/
import Derived.Test.YtcenfedmbicofaaDoorShaBlock
import Derived.Test.YtcenfedmbicofaaDoorShaPadded
import Derived.Test.YtcenfedmbicofaaDoorShaSum
set_option linter.unusedVariables false
set_option linter.unusedSimpArgs false
namespace Go.Proofs.YtcenfedmbicofaaDoor.ShaRef
open Go.RowKit Go.Proofs.YtcenfedmbicofaaDoor.Base Go.Proofs.YtcenfedmbicofaaDoor.ShaPlain Go.Proofs.YtcenfedmbicofaaDoor.ShaRot Go.Proofs.YtcenfedmbicofaaDoor.Arr Go.Proofs.YtcenfedmbicofaaDoor.Mem Go.Proofs.YtcenfedmbicofaaDoor.Buf Go.Proofs.YtcenfedmbicofaaDoor.ShaTake Go.Proofs.YtcenfedmbicofaaDoor.ShaSched Go.Proofs.YtcenfedmbicofaaDoor.ShaBlock Go.Proofs.YtcenfedmbicofaaDoor.ShaBlocks Go.Proofs.YtcenfedmbicofaaDoor.ShaPut Go.Proofs.YtcenfedmbicofaaDoor.ShaPadded Go.Proofs.YtcenfedmbicofaaDoor.ShaSum

/-- The document's first state lies in memory. -/
def RBegin (s0 : St) (w : World) : Prop := ∀ i : Nat, i < 8 → w.cell? ⟨0, i, none⟩ = some (.int .u32 (s0.list.getD i 0 : Int))
theorem RBegin.lt {s : St} {w : World} (h : RBegin s w) : 0 < w.heap.size := World.block_lt_of_cell? w _ (h 0 (by decide))
theorem RBegin.grown {s : St} {w wx : World} (h : RBegin s w) {row : Option Nat} (hg : Grew w wx row) (hne : some 0 ≠ row) : RBegin s wx :=
  fun i hi => (hg.cell ⟨0, i, none⟩ h.lt hne).trans (h i hi)
theorem pad_whole (t : List Nat) : 64 ∣ (t ++ pad t.length).length := by
  rw [List.length_append, pad_length]
  have : zeros t.length = (119 - t.length % 64) % 64 := rfl
  omega
theorem buf_bytes {w : World} {base : Nat} {v : Value} {bs : List Nat} (h : Buf w base v bs) (hne : bs ≠ []) : ∃ g cap, v = .slice (some ⟨g, 0, none⟩) bs.length cap ∧ Bytes w g 0 bs := by
  rcases h with ⟨rfl, rfl⟩ | ⟨g, cap, rfl, _, _, h4, _, h6⟩
  · exact absurd rfl hne
  · exact ⟨g, cap, rfl, fun j hj => by rw [Nat.zero_add]; exact h4 j hj, h6⟩
set_option maxHeartbeats 4000000 in
set_option maxRecDepth 1000000 in
theorem rsum_calls (K : List Nat) (hK : Small K) (s0 : St) (hs : s0.Ok) (x : ByteArray) (hx : x.size ≤ 140737488355200) (w : World) (hT : RTable K w) (hB : RBegin s0 w) :
    Calls Tryd.prog 61 #[.string x] w (Says (digest K s0 (nbN x)) w) := by
  obtain ⟨hz8, hi8⟩ := zero_of_info rinfo8
  have HI8 := Lib.hid hi8
  have HP := Lib.hid (padded_calls x hx w)
  have HT := Lib.hid hT
  have HB := Lib.hid hB
  have hpw := pad_whole (nbN x)
  have hpl : (nbN x ++ pad x.size).length = x.size + (zeros x.size + 9) := by rw [List.length_append, nbN_length, pad_length]
  have hzl : zeros x.size < 64 := Nat.mod_lt _ (by decide)
  have hpb : ∀ y ∈ nbN x ++ pad x.size, y < 256 := by
    intro y hy
    rcases List.mem_append.1 hy with h | h
    · exact nbN_byte h
    · exact pad_byte _ y h
  have HD : Hid (digest K s0 (nbN x) = stBytes (feed K s0 (nbN x ++ pad x.size) ((nbN x ++ pad x.size).length / 64))) := Lib.hid (by rw [digest, nbN_length])
  rw [nbN_length] at hpw
  generalize digest K s0 (nbN x) = dg at *
  generalize nbN x ++ pad x.size = bs at *
  have hne : bs ≠ [] := by intro h; rw [h] at hpl; simp at hpl
  have hbl : bs.length ≤ 140737488355300 := by omega
  clear hpl hzl hT hB hi8
  go_enter Tryd.func61, Tryd.ntmps61
  go_wp2_with fail
  refine HP.out.mono ?_; rintro e w1 ⟨v, rfl, hb1, hl1⟩
  obtain ⟨g, cap, rfl, hby⟩ := buf_bytes hb1 hne
  have HG1 := Lib.hid (Grew.of_below hl1 none)
  have HLO : Hid (∀ (j : Nat) v, (arr8 s0)[j]? = some v → w1.cell? ⟨0, 0 + j, none⟩ = some v) := Lib.hid fun j v hv => by
    have hj : j < 8 := by
      by_cases hj : j < 8
      · exact hj
      · rw [Array.getElem?_eq_none (by show 8 ≤ j; omega)] at hv; exact absurd hv (by simp)
    rw [arr8_get j s0 hj] at hv
    rw [Nat.zero_add, (HB.out.grown HG1.out (by simp)) j hj, hv]
  have HBY := Lib.hid hby
  clear hb1 hl1 hby
  go_wp2_with (first
    | (refine wpList_load_seg rfl 97 _ rfl 0 0 rfl (arr8 s0) _ HLO.out Tryd.underlying97 rfl HI8.out ?_)
    | (refine wpList_put_row rfl 97 _ _ rfl w1.heap.size rfl (arr8 s0) rfl 97 _ (heap_alloc_new w1 _) HI8.out (by rw [arr8_size]; simp) (arr8_one _) ?_; rw [World.setRow_alloc_new]))
  have q4 := Row.new w1 (arr8 s0) 97
  have qg := (Grew.refl w1 none).alloc (.cells (arr8 s0) 97)
  generalize w1.alloc (.cells (arr8 s0) 97) = wz at *
  have hg4 : w1.heap.size ≤ w1.heap.size := Nat.le_refl _
  generalize hgz : w1.heap.size = g4 at q4 hg4 ⊢
  obtain ⟨q, hq⟩ : ∃ q, q = bs.length / 64 := ⟨_, rfl⟩
  have hq2 : bs.length = 64 * q := by omega
  have HG4 : Hid (w1.heap.size ≤ g4) := Lib.hid (by omega)
  have HQ1 := Lib.hid hq
  have HQ2 := Lib.hid hq2
  clear hq hq2
  go_loopw [5] (fun s5 wx => ∃ i : Nat, i ≤ q ∧ s5 = .int .i64 ((64 * i : Nat) : Int) ∧ Grew w1 wx none ∧ Row wx g4 (arr8 (feed K s0 bs i)) 97) (fun s5 _ => (bs.length : Nat) - (intOf s5).toNat)
  case atStart => exact ⟨0, by omega, rfl, qg, q4⟩
  case round =>
    obtain ⟨i, hi, rfl, hg, h4⟩ := hrel
    have hq2 := HQ2.out
    by_cases hlt : i < q
    · have hlt' : ((64 * i : Nat) : Int) < (bs.length : Int) := by omega
      have hok := feed_ok (K := K) hs bs i
      have HBK := (block_calls K hK (feed K s0 bs i) hok g 0 (64 * i) cap bs hpb (by omega) (by omega) wr (HT.out.grown (HG1.out.andThen hg (by simp)) (by simp)) (HBY.out.grown hg))
      have hst : comp K (feed K s0 bs i) ((bs.drop (64 * i)).take 64) = feed K s0 bs (i + 1) := rfl
      have HST := Lib.hid hst
      have HGG := Lib.hid hg
      have HH4 := Lib.hid h4
      clear hst hg h4 hok hq2
      rw [show ((64 * i : Nat) : Int) = 64 * (i : Int) by omega] at HBK
      rw [show ((64 * i : Nat) : Int) = 64 * (i : Int) by omega] at hlt' ⊢
      have HBK := Lib.hid (HBK.mono fun e w' (h : Blocked K _ _ _ e w') => (show e = .returned (.agg (arr8 (feed K s0 bs (i + 1)))) ∧ Grew wr w' none from ⟨by rw [← HST.out]; exact h.1, h.2⟩))
      generalize hS1e : feed K s0 bs (i + 1) = S1 at *
      have HS1E := Lib.hid hS1e
      clear hS1e
      generalize feed K s0 bs i = S0 at *
      go_wp2_with (refine wpList_load_row rfl 97 _ rfl g4 rfl 97 (arr8 S0) (0, 0) _ HH4.out Tryd.underlying97 rfl HI8.out ?_)
      refine HBK.out.mono ?_; rintro e w2 ⟨rfl, hg2⟩
      have hh4 := HH4.out.kept hg2 (by simp)
      have HGF := Lib.hid ((HGG.out.andThen hg2 (by simp)).put g4 (.inl HG4.out) (arr8 S1))
      have HHF := Lib.hid (hh4.put (arr8 S1))
      clear hg2
      go_wp2_with (refine wpList_put_row rfl 97 _ _ rfl g4 rfl (arr8 S1) rfl 97 _ hh4 HI8.out (by rw [arr8_size, arr8_size]) (arr8_one _) ?_)
      go_roundw
      case rel => exact ⟨i + 1, by omega, by go_num, HGF.out, by rw [HS1E.out]; exact HHF.out⟩
      case measure => simp [intOf]; omega
    · have hiq : i = q := by omega
      rw [hiq] at h4
      have hlt' : ¬ ((64 * i : Nat) : Int) < (bs.length : Int) := by omega
      rw [HQ1.out] at h4
      have hok := feed_ok (K := K) hs bs (bs.length / 64)
      generalize feed K s0 bs (bs.length / 64) = S at *
      have HOK := Lib.hid hok
      clear hiq hq2 hok hlt
      go_wp2_with fail
      have HW := Lib.hid hg
      go_loopw [6, 7] (fun s6 s7 wx => ∃ i : Nat, i ≤ 8 ∧ s7 = .int .i64 i ∧ Buf wx (g4 + 1) s6 ((S.list.take i).flatMap fun x => beN x 4) ∧ Grew w1 wx none ∧ Row wx g4 (arr8 S) 97) (fun _ s7 _ => 8 - (intOf s7).toNat)
      case atStart => exact ⟨0, by omega, rfl, Buf.nil _ _, hg, h4⟩
      case round =>
        obtain ⟨i, hi, rfl, hb, hg, h4⟩ := hrel
        have hwl := h4.lt
        have hfl := flat_len (S.list.take i)
        have hll : S.list.length = 8 := rfl
        by_cases hlt : i < 8
        · have hlt' : (i : Int) < 8 := by omega
          have c0 := (h4.cell i).trans (arr8_get i S hlt)
          have hsm : S.list.getD i 0 < 4294967296 := by
            obtain ⟨k1, k2, k3, k4, k5, k6, k7, k8⟩ := HOK.out
            rcases lt8 hlt with rfl | rfl | rfl | rfl | rfl | rfl | rfl | rfl <;> assumption
          have hfs := flat_succ S.list i (by omega)
          generalize S.list.getD i 0 = y at *
          rw [List.length_take, hll, Nat.min_eq_left (by omega)] at hfl
          have HFS := Lib.hid hfs
          have HBB := Lib.hid hb
          have HFL := Lib.hid hfl
          have HGG := Lib.hid hg
          have HH4 := Lib.hid h4
          have HY0 : Hid (((y / 16777216 % 256 : Nat) : Int) = IntKind.u8.wrap ((y : Int) / 16777216)) := Lib.hid (by rw [IntKind.wrap_u8]; omega)
          have HY1 : Hid (((y / 65536 % 256 : Nat) : Int) = IntKind.u8.wrap ((y : Int) / 65536)) := Lib.hid (by rw [IntKind.wrap_u8]; omega)
          have HY2 : Hid (((y / 256 % 256 : Nat) : Int) = IntKind.u8.wrap ((y : Int) / 256)) := Lib.hid (by rw [IntKind.wrap_u8]; omega)
          have HY3 : Hid (((y % 256 : Nat) : Int) = IntKind.u8.wrap (y : Int)) := Lib.hid (by rw [IntKind.wrap_u8]; omega)
          have HBE : Hid (beN y 4 = [y / 16777216 % 256, y / 65536 % 256, y / 256 % 256, y % 256]) := Lib.hid (by simp [beN])
          clear hfs hb hfl hg h4 hll
          go_wp2_with fail
          go_region_law ((refine step_buf rfl (.tmp 25) (.tmp 45) rfl (g4 + 1) _ _ (by simp [Act.eval, Act.put]) (HBB.out.drew.alloc _) ⟨wr.heap.size, 0, none⟩ 4 4 [y / 16777216 % 256, y / 65536 % 256, y / 256 % 256, y % 256] (by simp [Act.eval, Act.put]) rfl (cell_new4 wr.drew _ _ _ _ _ _ _ _ _ HY0.out HY1.out HY2.out HY3.out) (by rw [HFL.out]; simp; omega) (by simp; omega) ?_); intro v' w' hbuf' hbl')
          all_goals
            clear c0
            go_wp2
            go_roundw
            case rel => exact ⟨i + 1, by omega, by go_num, by rw [HFS.out, HBE.out]; exact hbuf', Grew.of_below ((HGG.out.drew.alloc _).below.trans (hbl'.mono (by have := HG4.out; omega))) none, (HH4.out.drew.alloc _).below hbl' (by omega)⟩
            case measure => simp [intOf]; omega
        · have hi8 : i = 8 := by omega
          rw [hi8] at hb hfl
          have hlt' : ¬ (i : Int) < 8 := by omega
          have hst : ((S.list.take 8).flatMap fun x => beN x 4) = stBytes S := rfl
          rw [hst] at hb hfl
          obtain ⟨g2, cap2, rfl, hcl⟩ := hb.text (by intro h; have := congrArg List.length h; rw [hfl] at this; simp [hll] at this)
          have hcv := run_convert_bytes_arg (P := Tryd.prog) wr 78 5 Tryd.underlying78 Tryd.underlying5 g2 0 (stBytes S).length cap2 ((stBytes S).map fun x : Nat => (x : Int)) (by rw [List.length_map]) hcl 9 Tryd.underlying9
          have HNB := Lib.hid (nbN_nums (stBytes S) (flat_byte S.list))
          have HB4 := Lib.hid (HG1.out.andThen hg (by simp)).below
          generalize strOfNums ((stBytes S).map fun x : Nat => (x : Int)) = st at *
          clear hb hcl hst hfl hll hg h4
          go_wp2
          go_ret
          exact ⟨st, rfl, by rw [HD.out]; exact HNB.out, HB4.out⟩
end Go.Proofs.YtcenfedmbicofaaDoor.ShaRef
