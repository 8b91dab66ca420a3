/- sha.New, Copy, Reset, Len, Sum of a Hash, sha.Sum, sha.Cut: their walks. -/
import Derived.Test.YtcenfedmbicofaaDoorShaWrite
import Derived.Test.YtcenfedmbicofaaDoorShaPut
set_option linter.unusedVariables false
set_option linter.unusedSimpArgs false
namespace Go.Proofs.YtcenfedmbicofaaDoor.ShaNew
open Go.RowKit Go.Proofs.YtcenfedmbicofaaDoor.Base Go.Proofs.YtcenfedmbicofaaDoor.ShaPlain Go.Proofs.YtcenfedmbicofaaDoor.ShaRot Go.Proofs.YtcenfedmbicofaaDoor.Arr Go.Proofs.YtcenfedmbicofaaDoor.Mem Go.Proofs.YtcenfedmbicofaaDoor.Buf Go.Proofs.YtcenfedmbicofaaDoor.ShaTake Go.Proofs.YtcenfedmbicofaaDoor.ShaBlocks Go.Proofs.YtcenfedmbicofaaDoor.ShaKit Go.Proofs.YtcenfedmbicofaaDoor.ShaWrite Go.Proofs.YtcenfedmbicofaaDoor.ShaPut

/-- The first state lies in memory. -/
def Begin (s0 : St) (w : World) : Prop := ∀ i : Nat, i < 8 → w.cell? ⟨2, i, none⟩ = some (.int .u32 (s0.list.getD i 0 : Int))
theorem Begin.lt {s : St} {w : World} (h : Begin s w) : 2 < w.heap.size := World.block_lt_of_cell? w _ (h 0 (by decide))
theorem Begin.grown {s : St} {w wx : World} (h : Begin s w) {row : Option Nat} (hg : Grew w wx row) (hne : some 2 ≠ row) : Begin s wx :=
  fun i hi => (hg.cell ⟨2, i, none⟩ h.lt hne).trans (h i hi)
theorem infoH : (Tryd.prog.info? 110).map (fun i => (i.zero, i.size)) = some (some (.agg (hcells ⟨0, 0, 0, 0, 0, 0, 0, 0⟩ (List.replicate 64 0) 0)), 73) := by kernel_rfl
theorem hcells_one (s : St) (r : List Nat) (n : Int) : (hcells s r n).all (·.oneCell') = true := by
  rw [Array.all_eq_true']
  intro x hx
  simp only [hcells, hw, List.mem_toArray, List.mem_append, List.mem_map, List.mem_singleton] at hx
  rcases hx with ⟨_, _, rfl⟩ | ⟨_, _, rfl⟩ | rfl <;> rfl
def zr : List Nat := List.replicate 64 0
theorem hash_new (K : List Nat) (s0 : St) (w : World) (b : Nat) (h : Row w b (hcells s0 zr 0) 110) : Hash K s0 w b [] :=
  ⟨zr, h, by decide, by intro x hx; rw [List.eq_of_mem_replicate hx]; decide, by rfl⟩
theorem hash_row {K : List Nat} {s0 : St} {w : World} {b : Nat} {t : List Nat} (h : Hash K s0 w b t) : ∃ s r, Row w b (hcells s r (t.length : Int)) 110 ∧ r.length = 64 ∧ ∀ (wx : World) (b' : Nat), Row wx b' (hcells s r (t.length : Int)) 110 → Hash K s0 wx b' t := by
  obtain ⟨r, h1, h2, h3, h4⟩ := h
  exact ⟨_, r, h1, h2, fun wx b' hb => ⟨r, hb, h2, h3, h4⟩⟩
theorem hash_kept {K : List Nat} {s0 : St} {w wx : World} {b : Nat} {t : List Nat} (h : Hash K s0 w b t) {row : Option Nat} (hg : Grew w wx row) (hne : some b ≠ row) : Hash K s0 wx b t := by
  obtain ⟨s, r, h1, _, h3⟩ := hash_row h
  exact h3 _ _ (h1.kept hg hne)
theorem hash_lt {K : List Nat} {s0 : St} {w : World} {b : Nat} {t : List Nat} (h : Hash K s0 w b t) : b < w.heap.size := by
  obtain ⟨s, r, h1, _⟩ := hash_row h
  exact h1.lt
theorem row_of (w : World) (C C' : Array Value) (t : TypeId) (h : C = C') : Row (w.alloc (.cells C t)) w.heap.size C' t := h ▸ Row.new w C t
/-- A new Hash, that holds this text. -/
def Made (K : List Nat) (s0 : St) (t : List Nat) (w : World) (e : Ending) (w' : World) : Prop := ∃ b, e = .returned (.pointer (some ⟨b, 0, none⟩)) ∧ w.heap.size ≤ b ∧ Grew w w' none ∧ Hash K s0 w' b t
set_option maxHeartbeats 1000000 in
set_option maxRecDepth 1000000 in
theorem new_calls (K : List Nat) (s0 : St) (w : World) (hB : Begin s0 w) : Calls Tryd.prog 75 #[] w (Made K s0 [] w) := by
  obtain ⟨hz8, hi8⟩ := zero_of_info info8
  obtain ⟨hzH, hiH⟩ := zero_of_info infoH
  have HLO : Hid (∀ (j : Nat) v, (arr8 s0)[j]? = some v → w.cell? ⟨2, 0 + j, none⟩ = some v) := Lib.hid fun j v hv => by
    have hj : j < 8 := by
      by_cases hj : j < 8
      · exact hj
      · rw [Array.getElem?_eq_none (by show 8 ≤ j; omega)] at hv; exact absurd hv (by simp)
    rw [arr8_get j s0 hj] at hv
    rw [Nat.zero_add, hB j hj, hv]
  have HI8 := Lib.hid hi8
  have HIH := Lib.hid hiH
  clear hi8 hiH hz8 hB
  go_enter Tryd.func75, Tryd.ntmps75
  go_wp2_with (refine wpList_load_seg rfl 107 _ rfl 2 0 rfl (arr8 s0) _ HLO.out Tryd.underlying107 rfl HI8.out ?_)
  case inl h =>
    rcases h with hh | hh
    · exact of_decide_eq_true hh rfl
    · rw [arr8_size, hcells_size _ _ _ rfl] at hh
      exact absurd hh (by decide)
  refine bodyPost_ret (results_tmp rfl _ _ _) rfl ?_
  exact ⟨w.heap.size, rfl, Nat.le_refl _, (Grew.refl w none).alloc _, hash_new K s0 _ _ (row_of w _ _ _ (by kernel_rfl))⟩
set_option maxHeartbeats 1000000 in
set_option maxRecDepth 1000000 in
theorem copy_calls (K : List Nat) (s0 : St) (w : World) (b : Nat) (t : List Nat) (hH : Hash K s0 w b t) : Calls Tryd.prog 85 #[.pointer (some ⟨b, 0, none⟩)] w (Made K s0 t w) := by
  obtain ⟨s1, r1, hrow, hr1, hre⟩ := hash_row hH
  obtain ⟨hzH, hiH⟩ := zero_of_info infoH
  have HIH := Lib.hid hiH
  have HROW := Lib.hid hrow
  have HSZ := Lib.hid (hcells_size s1 r1 (t.length : Int) hr1)
  have HRE := Lib.hid hre
  have hone := hcells_one s1 r1 (t.length : Int)
  have hzs : Hid ((hcells ⟨0, 0, 0, 0, 0, 0, 0, 0⟩ (List.replicate 64 0) 0).size = 73) := Lib.hid (hcells_size _ _ _ rfl)
  generalize hcells ⟨0, 0, 0, 0, 0, 0, 0, 0⟩ (List.replicate 64 0) 0 = Z at *
  generalize hC : hcells s1 r1 (t.length : Int) = C at *
  have HONE := Lib.hid hone
  clear hiH hH hrow hre hone hC
  go_enter Tryd.func85, Tryd.ntmps85
  go_wp2_with (first
    | (refine wpList_load_row rfl 110 _ rfl b rfl 110 C (0, 0) _ HROW.out Tryd.underlying110 rfl (by rw [HSZ.out]; exact HIH.out) ?_)
    | (refine wpList_put_row rfl 110 _ _ rfl w.heap.size rfl C rfl 110 Z (heap_alloc_new w _) (by rw [HSZ.out]; exact HIH.out) (by rw [hzs.out, HSZ.out]) HONE.out ?_; rw [World.setRow_alloc_new]))
  go_ret
  exact ⟨w.heap.size, rfl, Nat.le_refl _, (Grew.refl w none).alloc _, HRE.out _ _ (Row.new w C 110)⟩
end Go.Proofs.YtcenfedmbicofaaDoor.ShaNew
