/- The statements' other and back: their walks. -/
import Derived.Test.YtahkpcbemnfllaaDoorComp3
import Derived.Test.YtahkpcbemnfllaaDoorBuf
import Derived.Laws.OwnMore
set_option linter.unusedVariables false
set_option linter.unusedSimpArgs false
namespace Go.Proofs.YtahkpcbemnfllaaDoor.Comp
open Go.RowKit Go.Proofs.YtahkpcbemnfllaaDoor.Base Go.Proofs.YtahkpcbemnfllaaDoor.Mem Go.Proofs.YtahkpcbemnfllaaDoor.Strs Go.Proofs.YtahkpcbemnfllaaDoor.ShaDig Go.Proofs.YtahkpcbemnfllaaDoor.TreeHash Go.Proofs.YtahkpcbemnfllaaDoor.Cov
open Go.Proofs.YtahkpcbemnfllaaDoor.Fold (foldH Fit)
open Go.Proofs.YtahkpcbemnfllaaDoor.Lst (OwnA Adr OwnA.shape Kp own_below)

theorem below_grown {B : Nat} {w wx w2 : World} (h : Below B w wx) (g : wx.grownBy w2 (some B)) (hB : B = w.heap.size) : Below B w w2 := by
  subst hB
  exact ⟨g.os.trans h.os, g.tape.trans h.tape, g.output.trans h.output, Nat.le_trans h.size g.size, fun k hk => (g.block k (Nat.lt_of_lt_of_le hk h.size) (fun e => by cases e; omega)).trans (h.block k hk)⟩
/-- A row of m bytes in block B. -/
def BR (w : World) (base B m : Nat) : Prop := ∃ ns : List Int, ns.length = m ∧ w.ownsRow base 5 1 (.slice (some ⟨B, 0, none⟩) m m) m (ns.map (Value.int .u8))
theorem BR.below {w wx : World} {base B m : Nat} (h : BR w base B m) (b : Below w.heap.size w wx) : BR wx base B m := by
  obtain ⟨ns, h1, h2⟩ := h
  exact ⟨ns, h1, own_below h2 b⟩
theorem BR.cell {w : World} {base B m : Nat} (h : BR w base B m) (j : Nat) (hj : j < m) : (∃ u, w.cell? ⟨B, j, none⟩ = some u) ∧ w.frozen? ⟨B, j, none⟩ = false := by
  obtain ⟨ns, h1, h2⟩ := h
  refine ⟨?_, h2.frozenAt j⟩
  rw [h2.cellAt j (by omega)]
  exact ⟨_, List.getElem?_eq_getElem (by rw [List.length_map]; omega)⟩
theorem BR.set {w : World} {base B m : Nat} (h : BR w base B m) (j : Nat) (x : Int) : BR (w.setCell ⟨B, j, none⟩ (.int .u8 x)) base B m ∧ w.grownBy (w.setCell ⟨B, j, none⟩ (.int .u8 x)) (some B) := by
  obtain ⟨ns, h1, h2⟩ := h
  obtain ⟨h3, h4⟩ := h2.stored j (.int .u8 x)
  refine ⟨⟨ns.set j x, by simpa using h1, ?_⟩, h4⟩
  rw [List.map_set]
  exact h3
theorem BR.text {w : World} {base B m : Nat} (h : BR w base B m) : ∃ s : ByteArray, s.size = m ∧ (convert 68 9 (.slice (some ⟨B, 0, none⟩) m m)).run Tryd.prog w = .ok (.string s) w := by
  obtain ⟨ns, h1, h2⟩ := h
  refine ⟨strOfNums ns, by rw [strOfNums_size, h1], ?_⟩
  refine run_convert_bytes_arg w 68 5 Tryd.underlying68 Tryd.underlying5 B 0 m m ns h1 (fun i hi => ?_) 9 Tryd.underlying9
  rw [Nat.zero_add, h2.cellAt i (by omega), List.getElem?_map, List.getD_eq_getElem?_getD, List.getElem?_eq_getElem (by omega)]
  rfl
theorem BR.make (w : World) (m : Nat) (hm : m ≤ 140737488351232) : ∃ w', (Instr.makeSlice 68 (.int .i64 (m : Int)) (.int .i64 (m : Int))).run Tryd.prog w = .ok (.slice (some ⟨w.heap.size, 0, none⟩) m m) w' ∧ BR w' w.heap.size w.heap.size m ∧ Below w.heap.size w w' := by
  obtain ⟨i, hi, hz, hsz, hby⟩ := Buf.info_u8
  obtain ⟨w', h1, h2, h3⟩ := run_make_full (P := Tryd.prog) w w.heap.size 68 5 i _ 1 Tryd.underlying68 hi hz hsz .i64 .i64 m (by rw [hby]; omega) (by unfold maxLen; omega) (Nat.le_refl _)
  refine ⟨w', h1, ⟨List.replicate m 0, by simp, ?_⟩, Grew.below h3⟩
  rw [List.map_replicate]
  rw [Nat.mul_one] at h2
  rwa [show (Value.cells (.int .u8 0)) = #[.int .u8 0] from rfl, toList_madeCells_one] at h2
/-- A list of n texts in block g (with tl behind), each as long as that of zs; all but g is as in w. -/
def Tw (w : World) (base g n c : Nat) (tl : List ByteArray) (zs : List ByteArray) (wr : World) : Prop :=
  ∃ ys : List ByteArray, ys.length = n ∧ (∀ q, (ys.getD q ⟨#[]⟩).size = (zs.getD q ⟨#[]⟩).size) ∧ Strs.Own wr base (.slice (some ⟨g, 0, none⟩) (n + tl.length) c) (ys ++ tl) ∧ Kp (fun b => b = g) w wr
theorem own_len {w : World} {base g n c : Nat} {xs : List ByteArray} (h : Strs.Own w base (.slice (some ⟨g, 0, none⟩) n c) xs) : xs.length = n := by
  rcases h.2 with ⟨h0, _⟩ | ⟨g', cap, cur, h0, _⟩
  · cases h0
  · simp only [Value.slice.injEq] at h0; omega
theorem own_set {w : World} {base g n c : Nat} {xs : List ByteArray} (h : Strs.Own w base (.slice (some ⟨g, 0, none⟩) n c) xs) (i : Nat) (s : ByteArray) :
    Strs.Own (w.setCell ⟨g, i, none⟩ (.string s)) base (.slice (some ⟨g, 0, none⟩) n c) (xs.set i s) ∧ w.grownBy (w.setCell ⟨g, i, none⟩ (.string s)) (some g) := by
  have hl := own_len h
  unfold Strs.Own at *
  rw [hl] at h
  obtain ⟨h1, h2⟩ := h.stored i (.string s)
  refine ⟨?_, h2⟩
  rw [List.length_set, hl]
  unfold sv at *
  rw [List.map_set]
  exact h1
theorem own_cell {w : World} {base g n c : Nat} {xs : List ByteArray} (h : Strs.Own w base (.slice (some ⟨g, 0, none⟩) n c) xs) (i : Nat) (hi : i < n) : w.cell? ⟨g, i, none⟩ = some (.string (xs.getD i ⟨#[]⟩)) ∧ w.frozen? ⟨g, i, none⟩ = false := by
  have hl := own_len h
  unfold Strs.Own at h
  rw [hl] at h
  refine ⟨?_, h.frozenAt i⟩
  rw [h.cellAt i (by omega)]
  exact sv_get xs i (by omega)
theorem getD_set_same {xs : List ByteArray} {i : Nat} {s : ByteArray} (q : Nat) (h : s.size = (xs.getD i ⟨#[]⟩).size) (hi : i < xs.length) : ((xs.set i s).getD q ⟨#[]⟩).size = (xs.getD q ⟨#[]⟩).size := by
  rw [List.getD_eq_getElem?_getD, List.getElem?_set]
  by_cases hq : i = q
  · subst hq
    rw [if_pos rfl, if_pos hi]
    exact h
  · rw [if_neg hq, ← List.getD_eq_getElem?_getD]
theorem Tw.step {w wr : World} {base g n c : Nat} {tl zs : List ByteArray} (h : Tw w base g n c tl zs wr) (i : Nat) (hi : i < n) (hz : ∀ s ∈ zs, s.size ≤ 140737488351232) :
    ∃ x : ByteArray, wr.cell? ⟨g, i, none⟩ = some (.string x) ∧ x.size ≤ 140737488351232 ∧
      ∀ wx s, Below wr.heap.size wr wx → s.size = x.size → (∃ u, wx.cell? ⟨g, i, none⟩ = some u) ∧ wx.frozen? ⟨g, i, none⟩ = false ∧ Tw w base g n c tl zs (wx.setCell ⟨g, i, none⟩ (.string s)) := by
  obtain ⟨ys, h1, h2, h3, h4⟩ := h
  obtain ⟨c1, c2⟩ := own_cell h3 i (by omega)
  have e : (ys ++ tl).getD i ⟨#[]⟩ = ys.getD i ⟨#[]⟩ := by rw [List.getD_eq_getElem?_getD, List.getElem?_append_left (by omega), ← List.getD_eq_getElem?_getD]
  rw [e] at c1
  refine ⟨_, c1, by rw [h2 i]; exact Fold.get_size hz i, fun wx s hb hs => ?_⟩
  have h3' : Strs.Own wx base (.slice (some ⟨g, 0, none⟩) (n + tl.length) c) (ys ++ tl) := h3.below hb
  obtain ⟨d1, d2⟩ := own_cell h3' i (by omega)
  obtain ⟨k1, k2⟩ := own_set h3' i s
  refine ⟨⟨_, d1⟩, d2, ys.set i s, by rw [List.length_set]; exact h1, fun q => by rw [getD_set_same q hs (by omega)]; exact h2 q, ?_, (h4.below hb).grown k2 (fun k e _ => by cases e; rfl)⟩
  rw [List.set_append_left _ _ (by omega)] at k1
  exact k1
set_option maxRecDepth 100000 in
set_option maxHeartbeats 4000000 in
theorem other_calls (lo hi : Int) (base g n c : Nat) (zs tl : List ByteArray) (w : World) (hO : Strs.Own w base (.slice (some ⟨g, 0, none⟩) (n + tl.length) c) (zs ++ tl)) (hl : zs.length = n) (hn : n ≤ 8796093022000) (hz : ∀ s ∈ zs, s.size ≤ 140737488351232) (hg : g < w.heap.size) :
    Calls Tryd.prog 10 #[fv lo hi (some ⟨g, 0, none⟩) n c] w (fun e w' => e = .returned (.tuple #[]) ∧ Tw w base g n c tl zs w') := by
  have r1 := Row.new w #[.int .i64 lo, .int .i64 hi, .slice (some ⟨g, 0, none⟩) n c] 24
  have hb0 : Below w.heap.size w (w.alloc (.cells #[.int .i64 lo, .int .i64 hi, .slice (some ⟨g, 0, none⟩) n c] 24)) := (Below.refl _ w).alloc (Nat.le_refl _) _
  have HT0 : Hid (Tw w base g n c tl zs (w.alloc (.cells #[.int .i64 lo, .int .i64 hi, .slice (some ⟨g, 0, none⟩) n c] 24))) := Lib.hid ⟨zs, hl, fun _ => rfl, hO.below hb0, Kp.of_below hb0⟩
  have HZ := Lib.hid hz
  clear hO hz hb0
  go_enter Tryd.func10, Tryd.ntmps10
  go_wp2
  obtain ⟨W0, hW0⟩ : ∃ W0, w.alloc (.cells #[.int .i64 lo, .int .i64 hi, .slice (some ⟨g, 0, none⟩) n c] 24) = W0 := ⟨_, rfl⟩
  rw [hW0] at r1 HT0 ⊢
  clear hW0
  have HR1 := Lib.hid r1
  clear r1
  go_loopw [2, 3, 4] (fun i _ _ wr => ∃ j : Nat, i = .int .i64 (j : Int) ∧ j ≤ n ∧ Hid (Tw w base g n c tl zs wr ∧ Row wr w.heap.size #[.int .i64 lo, .int .i64 hi, .slice (some ⟨g, 0, none⟩) n c] 24)) (fun i _ _ _ => n - (intOf i).toNat)
  case atStart => exact ⟨0, rfl, by omega, Lib.hid ⟨HT0.out, HR1.out⟩⟩
  case round =>
    obtain ⟨j, rfl, hj, hr⟩ := hrel
    have hc2 := hr.out.2.cell 2
    by_cases hlt : j < n
    · obtain ⟨wo, hwo⟩ : ∃ wo : World, wo = wr := ⟨_, rfl⟩
      subst hwo
      obtain ⟨x, hcx, hxs, hnext⟩ := hr.out.1.step j hlt HZ.out
      obtain ⟨w5, hmk, hbr, hb5⟩ := BR.make wo x.size hxs
      have HN := Lib.hid hnext
      have HBR := Lib.hid hbr
      have HB5 := Lib.hid hb5
      have hX : (⟨g, 0, none⟩ : Addr).add j = ⟨g, j, none⟩ := Arr.add_plain g j 0 |>.trans (by rw [Nat.zero_add])
      clear hnext hbr hb5
      have hxi : (x.size : Int) ≤ 140737488351232 := by omega
      go_wp2
      go_loopw [4] (fun i wx => ∃ q : Nat, i = .int .i64 (q : Int) ∧ q ≤ x.size ∧ Hid (BR wx wo.heap.size wo.heap.size x.size ∧ Below wo.heap.size wo wx)) (fun i _ => x.size - (intOf i).toNat)
      case atStart => exact ⟨0, rfl, by omega, Lib.hid ⟨HBR.out, HB5.out⟩⟩
      case round =>
        obtain ⟨q, rfl, hq, hb⟩ := hrel
        by_cases hql : q < x.size
        · obtain ⟨⟨u, hu⟩, hf⟩ := hb.out.1.cell q hql
          have HSET := Lib.hid (fun y => hb.out.1.set q y)
          have hY : (⟨wo.heap.size, 0, none⟩ : Addr).add q = ⟨wo.heap.size, q, none⟩ := Arr.add_plain wo.heap.size q 0 |>.trans (by rw [Nat.zero_add])
          go_wp2
          go_roundw
          case rel => exact ⟨q + 1, by go_num, by omega, Lib.hid ⟨(HSET.out _).1, below_grown hb.out.2 (HSET.out _).2 rfl⟩⟩
          case measure => simp only [intOf]; omega
        · obtain ⟨s, hs, hcv⟩ := hb.out.1.text
          obtain ⟨⟨u, hu⟩, hf, htw⟩ := HN.out _ s hb.out.2 hs
          have HTW := Lib.hid htw
          have hc3 := (hr.out.2.below hb.out.2 hr.out.2.lt).cell 2
          have HR3 := Lib.hid (hr.out.2.below hb.out.2 hr.out.2.lt)
          clear htw
          go_wp2
          go_roundw
          case rel =>
            refine ⟨j + 1, by go_num, by omega, Lib.hid ⟨HTW.out, ?_⟩⟩
            have := HR3.out
            exact (Below.heap_setCell _ ⟨g, j, none⟩ _ _ (by show w.heap.size ≠ g; omega)).trans this
          case measure => simp only [intOf]; omega
    · go_wp2
      go_end0
      exact ⟨rfl, hr.out.1⟩
/-- The texts of ss stand in the first i places again. -/
def Bk (w : World) (base g n c : Nat) (tl ss : List ByteArray) (i : Nat) (wr : World) : Prop :=
  ∃ ys : List ByteArray, ys.length = n ∧ ys.take i = ss.take i ∧ Strs.Own wr base (.slice (some ⟨g, 0, none⟩) (n + tl.length) c) (ys ++ tl) ∧ Kp (fun b => b = g) w wr
theorem Bk.step {w wr : World} {base g n c i : Nat} {tl ss : List ByteArray} (h : Bk w base g n c tl ss i wr) (hi : i < n) (hl : ss.length = n) :
    (∃ u, wr.cell? ⟨g, i, none⟩ = some u) ∧ wr.frozen? ⟨g, i, none⟩ = false ∧ Bk w base g n c tl ss (i + 1) (wr.setCell ⟨g, i, none⟩ (.string (ss.getD i ⟨#[]⟩))) := by
  obtain ⟨ys, h1, h2, h3, h4⟩ := h
  obtain ⟨d1, d2⟩ := own_cell h3 i (by omega)
  obtain ⟨k1, k2⟩ := own_set h3 i (ss.getD i ⟨#[]⟩)
  refine ⟨⟨_, d1⟩, d2, ys.set i (ss.getD i ⟨#[]⟩), by rw [List.length_set]; exact h1, ?_, by rw [List.set_append_left _ _ (by omega)] at k1; exact k1, h4.grown k2 (fun k e _ => by cases e; rfl)⟩
  rw [List.take_succ_eq_append_getElem (by rw [List.length_set]; omega), List.take_succ_eq_append_getElem (by omega), List.take_set_of_le (Nat.le_refl _), h2]
  congr 1
  simp [List.getD_eq_getElem?_getD, hl, hi]
theorem Bk.drewN {w wr : World} {base g n c i : Nat} {tl ss : List ByteArray} (h : Bk w base g n c tl ss i wr) (k : Nat) : Bk w base g n c tl ss i (wr.drewN k) := by
  obtain ⟨ys, h1, h2, h3, h4⟩ := h
  exact ⟨ys, h1, h2, h3, ⟨h4.os, h4.tape, h4.output, h4.size, h4.block⟩⟩
theorem Bk.drew {w wr : World} {base g n c i : Nat} {tl ss : List ByteArray} (h : Bk w base g n c tl ss i wr) : Bk w base g n c tl ss i wr.drew := by
  obtain ⟨ys, h1, h2, h3, h4⟩ := h
  exact ⟨ys, h1, h2, h3, ⟨h4.os, h4.tape, h4.output, h4.size, h4.block⟩⟩
set_option maxRecDepth 100000 in
set_option maxHeartbeats 4000000 in
theorem back_calls (lo hi lo2 hi2 : Int) (base g n c d : Nat) (A : Option Addr) (zs ss tl : List ByteArray) (w : World) (hO : Strs.Own w base (.slice (some ⟨g, 0, none⟩) (n + tl.length) c) (zs ++ tl)) (hl : zs.length = n) (hS : Strs w A n ss) (hA : 0 < n → ∀ ad, A = some ad → ad.block ≠ g) (hn : n ≤ 8796093022000) (hg : g < w.heap.size) :
    Calls Tryd.prog 12 #[fv lo hi (some ⟨g, 0, none⟩) n c, fv lo2 hi2 A n d] w (fun e w' => e = .returned (.tuple #[]) ∧ Bk w base g n c tl ss n w') := by
  have hls := hS.len
  have r1 := (Row.new w #[.int .i64 lo, .int .i64 hi, .slice (some ⟨g, 0, none⟩) n c] 24).alloc (.cells #[.int .i64 lo2, .int .i64 hi2, .slice A n d] 24)
  have r2 := Row.new (w.alloc (.cells #[.int .i64 lo, .int .i64 hi, .slice (some ⟨g, 0, none⟩) n c] 24)) #[.int .i64 lo2, .int .i64 hi2, .slice A n d] 24
  rw [World.size_alloc] at r2
  have hb0 : Below w.heap.size w ((w.alloc (.cells #[.int .i64 lo, .int .i64 hi, .slice (some ⟨g, 0, none⟩) n c] 24)).alloc (.cells #[.int .i64 lo2, .int .i64 hi2, .slice A n d] 24)) := ((Below.refl _ w).alloc (Nat.le_refl _) _).alloc (by simp) _
  have HT0 : Hid (Bk w base g n c tl ss 0 ((w.alloc (.cells #[.int .i64 lo, .int .i64 hi, .slice (some ⟨g, 0, none⟩) n c] 24)).alloc (.cells #[.int .i64 lo2, .int .i64 hi2, .slice A n d] 24))) := Lib.hid ⟨zs, hl, by simp, hO.below hb0, Kp.of_below hb0⟩
  have HSA := Lib.hid hS
  have HA := Lib.hid hA
  have HLS := Lib.hid hls
  clear hO hb0 hS hA hls
  go_enter Tryd.func12, Tryd.ntmps12
  go_wp2
  obtain ⟨W0, hW0⟩ : ∃ W0, ((w.alloc (.cells #[.int .i64 lo, .int .i64 hi, .slice (some ⟨g, 0, none⟩) n c] 24)).alloc (.cells #[.int .i64 lo2, .int .i64 hi2, .slice A n d] 24)) = W0 := ⟨_, rfl⟩
  rw [hW0] at r1 r2 HT0 ⊢
  clear hW0
  have HR1 := Lib.hid r1
  have HR2 := Lib.hid r2
  clear r1 r2
  go_loopw [4] (fun i wr => ∃ j : Nat, i = .int .i64 (j : Int) ∧ j ≤ n ∧ Hid (Bk w base g n c tl ss j wr ∧ Row wr w.heap.size #[.int .i64 lo, .int .i64 hi, .slice (some ⟨g, 0, none⟩) n c] 24 ∧ Row wr (w.heap.size + 1) #[.int .i64 lo2, .int .i64 hi2, .slice A n d] 24)) (fun i _ => n - (intOf i).toNat)
  case atStart => exact ⟨0, rfl, by omega, Lib.hid ⟨HT0.out, HR1.out, HR2.out⟩⟩
  case round =>
    obtain ⟨j, rfl, hj, hr⟩ := hrel
    have hc2 := hr.out.2.2.cell 2
    have hc1 := hr.out.2.1.cell 2
    by_cases hlt : j < n
    · obtain ⟨⟨u, hu⟩, hf, hnx⟩ := hr.out.1.step hlt HLS.out
      have hX : (⟨g, 0, none⟩ : Addr).add j = ⟨g, j, none⟩ := Arr.add_plain g j 0 |>.trans (by rw [Nat.zero_add])
      have hSr : Strs wr A n ss := by
        obtain ⟨_, _, _, _, hk⟩ := hr.out.1
        refine ⟨HSA.out.1, fun hn => ?_⟩
        obtain ⟨ad, rfl, hb, hc⟩ := HSA.out.2 hn
        exact ⟨ad, rfl, Nat.lt_of_lt_of_le hb hk.size, fun i hi => (World.cell?_of_block (hk.block _ (by rw [add_block]; exact hb) (by rw [add_block]; exact HA.out hn ad rfl))).trans (hc i hi)⟩
      obtain ⟨ad, rfl, _, hcell⟩ := hSr.at_ j hlt
      have HNX := Lib.hid hnx
      have hjn : (0 : Int) ≤ (j : Int) := by omega
      have hjl : (j : Int) < (n : Int) := by omega
      clear hnx hSr
      generalize ss.getD j ⟨#[]⟩ = x at *
      go_wp2
      go_region
      all_goals go_wp2
      all_goals
        go_roundw
        case rel =>
          refine ⟨j + 1, by go_num, by omega, Lib.hid ⟨HNX.out.drew, ?_, ?_⟩⟩
          · exact (Below.heap_setCell _ ⟨g, j, none⟩ _ _ (by show w.heap.size ≠ g; omega)).trans hr.out.2.1
          · exact (Below.heap_setCell _ ⟨g, j, none⟩ _ _ (by show w.heap.size + 1 ≠ g; omega)).trans hr.out.2.2
        case measure => simp only [intOf]; omega
    · obtain rfl : j = n := by omega
      go_wp2
      go_end0
      exact ⟨rfl, hr.out.1⟩
/-- Two lists of the same texts are the same. -/
theorem sameTexts_calls (A B : Option Addr) (n c d : Nat) (ss : List ByteArray) (w : World) (ha : Strs w A n ss) (hb : Strs w B n ss) (hn : n ≤ 8796093022208) :
    Calls Tryd.prog 36 #[.slice A n c, .slice B n d] w (fun e w' => e = .returned (.bool true) ∧ ∃ k, w' = w.drewN k) := by
  go_enter Tryd.func36, Tryd.ntmps36
  go_wp2
  go_loopw [5] (fun i wr => ∃ k : Nat, i = .int .i64 k ∧ k ≤ n ∧ Hid (∃ j, wr = w.drewN j)) (fun i _ => n - (intOf i).toNat)
  case atStart => exact ⟨0, rfl, by omega, Lib.hid ⟨0, rfl⟩⟩
  case round =>
    obtain ⟨k, rfl, hk, hw⟩ := hrel
    obtain ⟨j, rfl⟩ := hw.out
    clear hw
    by_cases hlt : k < n
    · obtain ⟨ad, rfl, _, a1⟩ := ha.at_ k hlt
      obtain ⟨bd, rfl, _, b1⟩ := hb.at_ k hlt
      have hlt' : (k : Int) < (n : Int) := by omega
      clear ha hb
      generalize ss.getD k ⟨#[]⟩ = z at *
      go_wp2
      go_quiet (fail)
      go_wp2
      go_roundw
      case rel => exact ⟨k + 1, by go_num, by omega, Lib.hid ⟨j + nq, rfl⟩⟩
      case measure => simp only [intOf]; omega
    · go_wp2
      go_ret
      exact ⟨rfl, j, rfl⟩
theorem drewN_below (w : World) (k : Nat) : Below w.heap.size w (w.drewN k) := ⟨rfl, rfl, rfl, Nat.le_refl _, fun _ _ => rfl⟩
theorem same_calls (lo hi : Int) (A B : Option Addr) (n c d : Nat) (ss : List ByteArray) (w : World) (ha : Strs w A n ss) (hb : Strs w B n ss) (hn : n ≤ 8796093022208) :
    Calls Tryd.prog 17 #[fv lo hi A n c, fv lo hi B n d] w (fun e w' => e = .returned (.bool true) ∧ Below w.heap.size w w') := by
  have r1 := (Row.new w #[.int .i64 lo, .int .i64 hi, .slice A n c] 24).alloc (.cells #[.int .i64 lo, .int .i64 hi, .slice B n d] 24)
  have r2 := Row.new (w.alloc (.cells #[.int .i64 lo, .int .i64 hi, .slice A n c] 24)) #[.int .i64 lo, .int .i64 hi, .slice B n d] 24
  rw [World.size_alloc] at r2
  have hb0 : Below w.heap.size w ((w.alloc (.cells #[.int .i64 lo, .int .i64 hi, .slice A n c] 24)).alloc (.cells #[.int .i64 lo, .int .i64 hi, .slice B n d] 24)) := ((Below.refl _ w).alloc (Nat.le_refl _) _).alloc (by simp) _
  have HSM := Lib.hid (sameTexts_calls A B n c d ss _ (ha.below hb0) (hb.below hb0) hn)
  have HB0 := Lib.hid hb0
  have c10 := r1.cell 0
  have c11 := r1.cell 1
  have c12 := r1.cell 2
  have c20 := r2.cell 0
  have c21 := r2.cell 1
  have c22 := r2.cell 2
  clear ha hb hb0 r1 r2
  go_enter Tryd.func17, Tryd.ntmps17
  go_wp2_with fail
  refine HSM.out.mono ?_
  rintro e w1 ⟨rfl, k, rfl⟩
  have HB1 := Lib.hid (chain HB0.out (drewN_below _ k))
  go_wp2
  go_ret
  exact ⟨rfl, HB1.out⟩
end Go.Proofs.YtahkpcbemnfllaaDoor.Comp
