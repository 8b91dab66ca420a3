/- Rows of memory that a call owns, and the world beside them. -/
import Derived.Test.YtcenfedmbicofaaDoorProg
import Derived.Test.YtcenfedmbicofaaDoorArr
import Derived.Laws.Rows
import Derived.Lib.BufferWrite
import Derived.Below
import Derived.BigQuiet
import Derived.Laws.Slices
set_option linter.unusedVariables false
set_option linter.unusedSimpArgs false
namespace Go.Proofs.YtcenfedmbicofaaDoor.Mem
open Go.RowKit

/-- The block holds these cells, all of which may be written. -/
def Row (w : World) (g : Nat) (cs : Array Value) (t : TypeId) : Prop := w.heap[g]? = some (.cells cs t (0, 0))
variable {w wx : World} {g : Nat} {cs : Array Value} {t : TypeId}
theorem Row.lt (h : Row w g cs t) : g < w.heap.size := by
  by_cases hl : g < w.heap.size
  · exact hl
  · unfold Row at h; rw [Array.getElem?_eq_none (by omega)] at h; exact absurd h (by simp)
theorem Row.cell (h : Row w g cs t) (j : Nat) : w.cell? ⟨g, j, none⟩ = cs[j]? := cell_of_row _ _ _ _ _ _ h
theorem Row.free (h : Row w g cs t) (j : Nat) : w.frozen? ⟨g, j, none⟩ = false := frozen_of_row _ _ _ _ _ h
theorem Row.drew (h : Row w g cs t) : Row w.drew g cs t := h
theorem Row.drewN (h : Row w g cs t) (n : Nat) : Row (w.drewN n) g cs t := h
theorem Row.new (w : World) (cs : Array Value) (t : TypeId) : Row (w.alloc (.cells cs t)) w.heap.size cs t := heap_alloc_new w _
theorem Row.alloc (h : Row w g cs t) (o : Obj) : Row (w.alloc o) g cs t := (Below.heap_alloc w o g h.lt).trans h
theorem Row.set (h : Row w g cs t) (j : Nat) (v : Value) : Row (w.setCell ⟨g, j, none⟩ v) g (cs.setIfInBounds j v) t := Lib.heap_setCell_same h v
theorem Row.far (h : Row w g cs t) (a : Addr) (hne : g ≠ a.block) (v : Value) : Row (w.setCell a v) g cs t := (Below.heap_setCell w a v g hne).trans h
theorem Row.put (h : Row w g cs t) (c' : Array Value) : Row (w.setRow g c') g c' t := setRow_heap _ _ _ _ _ _ h
theorem Row.putFar (h : Row w g cs t) (k : Nat) (hne : g ≠ k) (c' : Array Value) : Row (w.setRow k c') g cs t := (setRow_other w k g c' hne).trans h
theorem Row.kept {row : Option Nat} (h : Row w g cs t) (hg : w.grownBy wx row) (hne : some g ≠ row) : Row wx g cs t := (hg.block g h.lt hne).trans h
theorem Row.below {B : Nat} (h : Row w g cs t) (hb : Below B w wx) (hlt : g < B) : Row wx g cs t := (hb.block g hlt).trans h

abbrev Grew (w wx : World) (row : Option Nat) : Prop := w.grownBy wx row
variable {row : Option Nat}
theorem Grew.refl (w : World) (row : Option Nat) : Grew w w row := ⟨rfl, rfl, rfl, Nat.le_refl _, fun _ _ _ => rfl⟩
theorem Grew.drewN (h : Grew w wx row) (n : Nat) : Grew w (wx.drewN n) row := ⟨h.os, h.tape, h.output, h.size, h.block⟩
theorem Grew.drew (h : Grew w wx row) : Grew w wx.drew row := ⟨h.os, h.tape, h.output, h.size, h.block⟩
theorem Grew.alloc (h : Grew w wx row) (o : Obj) : Grew w (wx.alloc o) row :=
  ⟨h.os, h.tape, h.output, by simpa using Nat.le_succ_of_le h.size, fun k hk hne => (Below.heap_alloc wx o k (Nat.lt_of_lt_of_le hk h.size)).trans (h.block k hk hne)⟩
theorem Grew.set (h : Grew w wx row) (a : Addr) (ha : w.heap.size ≤ a.block ∨ row = some a.block) (v : Value) : Grew w (wx.setCell a v) row :=
  ⟨h.os, h.tape, h.output, by simpa [World.setCell] using h.size, fun k hk hne => (Below.heap_setCell wx a v k (by rintro rfl; rcases ha with ha | ha; omega; exact hne ha.symm)).trans (h.block k hk hne)⟩
theorem Grew.put (h : Grew w wx row) (k : Nat) (ha : w.heap.size ≤ k ∨ row = some k) (c' : Array Value) : Grew w (wx.setRow k c') row :=
  ⟨h.os, h.tape, h.output, by simpa using h.size, fun i hi hne => (setRow_other wx k i c' (by rintro rfl; rcases ha with ha | ha; omega; exact hne ha.symm)).trans (h.block i hi hne)⟩
theorem Grew.below (h : Grew w wx none) : Below w.heap.size w wx := ⟨h.os, h.tape, h.output, h.size, fun k hk => h.block k hk (by simp)⟩
theorem Grew.of_below (h : Below w.heap.size w wx) (row : Option Nat) : Grew w wx row := ⟨h.os, h.tape, h.output, h.size, fun k hk _ => h.block k hk⟩
theorem Grew.andBelow {w2 : World} (h : Grew w wx row) (k : Below wx.heap.size wx w2) : Grew w w2 row :=
  ⟨k.os.trans h.os, k.tape.trans h.tape, k.output.trans h.output, Nat.le_trans h.size k.size, fun i hi hne => (k.block i (Nat.lt_of_lt_of_le hi h.size)).trans (h.block i hi hne)⟩
/-- A step more, which may have written to a block of the call's own, or to the one row. -/
theorem Grew.andThen {w2 : World} {row2 : Option Nat} (h : Grew w wx row) (k : Grew wx w2 row2) (hr : ∀ j, row2 = some j → w.heap.size ≤ j ∨ row = some j) : Grew w w2 row :=
  ⟨k.os.trans h.os, k.tape.trans h.tape, k.output.trans h.output, Nat.le_trans h.size k.size, fun i hi hne =>
    (k.block i (Nat.lt_of_lt_of_le hi h.size) (by rintro e; rcases hr i e.symm with h1 | h1; omega; exact hne h1.symm)).trans (h.block i hi hne)⟩
theorem Grew.cell (h : Grew w wx row) (a : Addr) (hlt : a.block < w.heap.size) (hne : some a.block ≠ row) : wx.cell? a = w.cell? a := World.cell?_of_block (h.block a.block hlt hne)
/-- A part of a text. -/
theorem slice_lh {P : Program} (w : World) (t : TypeId) (s : ByteArray) (ht : P.underlying t = some .string) (l h : Nat) (h1 : l ≤ h) (h2 : h ≤ s.size) :
    (Instr.slice t (.string s) (some (.int .i64 (l : Int))) (some (.int .i64 (h : Int))) none).run P w = .ok (.string (s.extract l h)) w := by
  have e1 : (l : Int) ≤ h := by omega
  have e2 : (h : Int) ≤ s.size := by omega
  simp [Instr.slice, run_underlying ht, Instr.sliceBounds, run_sliceBound, e1, e2]
theorem slice_h {P : Program} (s : ByteArray) (t : TypeId) (ht : P.underlying t = some .string) (h : Nat) (h2 : h ≤ s.size) (w : World) :
    (Instr.slice t (.string s) none (some (.int .i64 (h : Int))) none).run P w = .ok (.string (s.extract 0 h)) w := by
  have e2 : (h : Int) ≤ s.size := by omega
  simp [Instr.slice, run_underlying ht, Instr.sliceBounds, run_sliceBound, sliced, e2]
theorem slice_l {P : Program} (s : ByteArray) (t : TypeId) (ht : P.underlying t = some .string) (l : Nat) (h2 : l ≤ s.size) (w : World) :
    (Instr.slice t (.string s) (some (.int .i64 (l : Int))) none none).run P w = .ok (.string (s.extract l s.size)) w := by
  have e2 : (l : Int) ≤ s.size := by omega
  simp [Instr.slice, run_underlying ht, Instr.sliceBounds, run_sliceBound, sliced, e2]
end Go.Proofs.YtcenfedmbicofaaDoor.Mem
