/- Slices of bytes that a call owns: what they hold, and append. -/
import Derived.Test.YtcenfedmbicofaaDoorProg
import Derived.Test.YtcenfedmbicofaaDoorMem
import Derived.Test.YtcenfedmbicofaaDoorShaPlain
import Derived.KernelRfl
import Derived.ArgAppend
import Derived.Lib.ConvBytes
import Derived.Deep.MidRow
import Derived.Laws.OwnMore
import Derived.Laws.MakeOwn
import Derived.WalkKit
set_option linter.unusedVariables false
set_option linter.unusedSimpArgs false
namespace Go.Proofs.YtcenfedmbicofaaDoor.Buf
open Go.RowKit Go.Proofs.YtcenfedmbicofaaDoor.Base Go.Proofs.YtcenfedmbicofaaDoor.Mem Go.Proofs.YtcenfedmbicofaaDoor.ShaPlain

/-- The slice holds these bytes, in a block from 'base' on, and may be written as far as its capacity. -/
def Buf (w : World) (base : Nat) (v : Value) (bs : List Nat) : Prop :=
  (v = .slice none 0 0 ∧ bs = []) ∨
  ∃ g cap, v = .slice (some ⟨g, 0, none⟩) bs.length cap ∧ base ≤ g ∧ bs.length ≤ cap ∧
    (∀ j, j < bs.length → w.cell? ⟨g, j, none⟩ = some (.int .u8 (bs.getD j 0 : Int))) ∧
    (∀ j, j < cap → (w.cell? ⟨g, j, none⟩).isSome = true ∧ w.frozen? ⟨g, j, none⟩ = false) ∧ g < w.heap.size
def cellsOf (bs : List Nat) : List Value := bs.map fun x : Nat => Value.int .u8 (x : Int)
theorem cellsOf_length (bs : List Nat) : (cellsOf bs).length = bs.length := List.length_map _
theorem cellsOf_get (bs : List Nat) (j : Nat) (h : j < bs.length) : (cellsOf bs)[j]? = some (.int .u8 (bs.getD j 0 : Int)) := by
  simp [cellsOf, List.getD_eq_getElem?_getD, h]
theorem cellsOf_one (bs : List Nat) : ∀ u ∈ cellsOf bs, u.oneCell' = true := by
  intro u hu
  simp only [cellsOf, List.mem_map] at hu
  obtain ⟨x, _, rfl⟩ := hu
  rfl
theorem Buf.nil (w : World) (base : Nat) : Buf w base (.slice none 0 0) [] := .inl ⟨rfl, rfl⟩
theorem Buf.below {w w' : World} {base : Nat} {v : Value} {bs : List Nat} (h : Buf w base v bs) {B : Nat} (hb : Below B w w') (hB : w.heap.size ≤ B) : Buf w' base v bs := by
  rcases h with h | ⟨g, cap, h1, h2, h3, h4, h5, h6⟩
  · exact .inl h
  · exact .inr ⟨g, cap, h1, h2, h3, fun j hj => (hb.cell (p := ⟨g, j, none⟩) (by simpa using Nat.lt_of_lt_of_le h6 hB)).trans (h4 j hj),
      fun j hj => ⟨by rw [hb.cell (p := ⟨g, j, none⟩) (by simpa using Nat.lt_of_lt_of_le h6 hB)]; exact (h5 j hj).1, by rw [hb.frozen (p := ⟨g, j, none⟩) (by simpa using Nat.lt_of_lt_of_le h6 hB)]; exact (h5 j hj).2⟩,
      Nat.lt_of_lt_of_le h6 hb.size⟩
theorem Buf.alloc {w : World} {base : Nat} {v : Value} {bs : List Nat} (h : Buf w base v bs) (o : Obj) : Buf (w.alloc o) base v bs := h.below ((Below.refl w.heap.size w).alloc (Nat.le_refl _) o) (Nat.le_refl _)
theorem Buf.mono {w : World} {base base' : Nat} {v : Value} {bs : List Nat} (h : Buf w base v bs) (hb : base' ≤ base) : Buf w base' v bs := by
  rcases h with h | ⟨g, cap, h1, h2, h3⟩
  · exact .inl h
  · exact .inr ⟨g, cap, h1, Nat.le_trans hb h2, h3⟩
theorem Buf.drew {w : World} {base : Nat} {v : Value} {bs : List Nat} (h : Buf w base v bs) : Buf w.drew base v bs := h
theorem Buf.drewN {w : World} {base : Nat} {v : Value} {bs : List Nat} (h : Buf w base v bs) (n : Nat) : Buf (w.drewN n) base v bs := h
theorem Buf.of_row {w : World} {base e : TypeId} {v : Value} {bs : List Nat} (h : w.ownsRow base e 1 v bs.length (cellsOf bs)) : Buf w base v bs := by
  obtain ⟨h1, h2 | ⟨g, cap, cur, h2, h3, h4, h5, h6, h7, h8⟩⟩ := h
  · exact .inl ⟨h2.1, List.eq_nil_of_length_eq_zero h2.2⟩
  · rw [Nat.mul_one] at h7 h8
    have hc : ∀ j, w.cell? ⟨g, j, none⟩ = cur[j]? := fun j => cell_of_row _ _ _ _ _ _ h4
    refine .inr ⟨g, cap, h2, h3, h5, fun j hj => ?_, fun j hj => ⟨?_, frozen_of_row _ _ _ _ _ h4⟩, ?_⟩
    · rw [hc, ← cellsOf_get bs j hj, ← h8, List.getElem?_take_of_lt hj]
      simp
    · rw [hc, Array.getElem?_eq_getElem (by omega)]; rfl
    · by_cases hl : g < w.heap.size
      · exact hl
      · rw [Array.getElem?_eq_none (by omega)] at h4; exact absurd h4 (by simp)
theorem info_u8 : ∃ i, Tryd.prog.info? 5 = some i ∧ i.zero = some (.int .u8 0) ∧ i.size = 1 ∧ i.bytes = 1 := by
  have h : (Tryd.prog.info? 5).map (fun i => (i.zero, i.size, i.bytes)) = some (some (.int .u8 0), 1, 1) := by kernel_rfl
  cases hq : Tryd.prog.info? 5 with
  | none => rw [hq] at h; exact absurd h (by simp)
  | some i => rw [hq] at h; simp at h; exact ⟨i, rfl, h.1, h.2.1, h.2.2⟩
theorem getD_append_lt (xs ys : List Nat) (j : Nat) (h : j < xs.length) : (xs ++ ys).getD j 0 = xs.getD j 0 := by
  simp [List.getD_eq_getElem?_getD, List.getElem?_append_left h]
theorem getD_append_ge (xs ys : List Nat) (j : Nat) : (xs ++ ys).getD (xs.length + j) 0 = ys.getD j 0 := by
  simp [List.getD_eq_getElem?_getD, List.getElem?_append_right]
theorem below_cells {B g : Nat} (hg : B ≤ g) : ∀ (vs : List Value) (o : Nat) (w : World), Below B w (w.setCells g o vs)
  | [], _, w => Below.refl B w
  | v :: r, o, w => ((Below.refl B w).setCell (p := ⟨g, o, none⟩) hg v).trans (below_cells hg r (o + 1) _)
theorem isSome_cells (b : Nat) (vs : List Value) (o : Nat) (w : World) (x : Addr) (h : (w.cell? x).isSome = true) : ((w.setCells b o vs).cell? x).isSome = true := World.isSome_setCells b vs o w x h
theorem size_cells (b : Nat) : ∀ (vs : List Value) (o : Nat) (w : World), (w.setCells b o vs).heap.size = w.heap.size
  | [], _, _ => rfl
  | v :: r, o, w => by rw [World.setCells, size_cells b r (o + 1)]; simp [World.setCell]
theorem Buf.shape {w : World} {base : Nat} {v : Value} {bs : List Nat} (h : Buf w base v bs) : ∃ A cap, v = .slice A bs.length cap := by
  rcases h with ⟨rfl, rfl⟩ | ⟨g, cap, rfl, _⟩
  · exact ⟨none, 0, rfl⟩
  · exact ⟨_, cap, rfl⟩
theorem Buf.new1 (w : World) (t : TypeId) (base : Nat) (hb : base ≤ w.heap.size) (x : Nat) : Buf (w.alloc (.cells #[.int .u8 (x : Int)] t)) base (.slice (some ⟨w.heap.size, 0, none⟩) 1 1) [x] := by
  have hr := Row.new w #[.int .u8 (x : Int)] t
  refine .inr ⟨w.heap.size, 1, rfl, hb, Nat.le_refl _, fun j hj => ?_, fun j hj => ⟨?_, hr.free j⟩, by simp⟩
  · obtain rfl : j = 0 := by simpa using hj
    rw [hr.cell]; rfl
  · obtain rfl : j = 0 := by omega
    rw [hr.cell]; rfl
/-- The text that owned bytes are. -/
theorem Buf.text {w : World} {base : Nat} {v : Value} {bs : List Nat} (h : Buf w base v bs) (hne : bs ≠ []) :
    ∃ g cap, v = .slice (some ⟨g, 0, none⟩) bs.length cap ∧ ∀ i, i < bs.length → w.cell? ⟨g, 0 + i, none⟩ = some (.int .u8 ((bs.map fun x : Nat => (x : Int)).getD i 0)) := by
  rcases h with ⟨rfl, rfl⟩ | ⟨g, cap, rfl, _, _, h4, _⟩
  · exact absurd rfl hne
  · refine ⟨g, cap, rfl, fun i hi => ?_⟩
    rw [Nat.zero_add, h4 i hi, List.getD_eq_getElem?_getD, List.getD_eq_getElem?_getD, List.getElem?_map]
    cases bs[i]? <;> rfl
theorem nbN_nums (xs : List Nat) (h : ∀ x ∈ xs, x < 256) : nbN (strOfNums (xs.map fun x : Nat => (x : Int))) = xs := by
  simp only [nbN, son_list, List.map_map]
  conv => rhs; rw [← List.map_id xs]
  apply List.map_congr_left
  intro x hx
  have := h x hx
  simp only [Function.comp, id, Int.toNat_natCast, UInt8.toNat_ofNat']
  omega
theorem make_bytes (w : World) (c : Nat) (hc : c ≤ 1000000000000) :
    ∃ w', (Instr.makeSlice 78 (.int .i64 0) (.int .i64 (c : Int))).run Tryd.prog w = .ok (.slice (some ⟨w.heap.size, 0, none⟩) 0 c) w' ∧ Buf w' w.heap.size (.slice (some ⟨w.heap.size, 0, none⟩) 0 c) [] ∧ Below w.heap.size w w' := by
  obtain ⟨i, hi, hz, hsz, hby⟩ := info_u8
  obtain ⟨w', h1, h2, h3⟩ := run_make_own (P := Tryd.prog) w w.heap.size 78 5 i _ 1 Tryd.underlying78 hi hz hsz .i64 .i64 c (by rw [hby]; omega) (by unfold maxLen; omega) (Nat.le_refl _)
  exact ⟨w', h1, Buf.of_row (e := 5) h2, Grew.below h3⟩
/-- The bytes of a text, made a slice. -/
theorem Buf.ofText (w : World) (e : TypeId) (s : ByteArray) : Buf (Lib.bytesWorld w e s) w.heap.size (.slice (some ⟨w.heap.size, 0, none⟩) s.size (grownCap w s.size 0 e)) (nbN s) := by
  have hg := grownCap_ge w s.size 0 e
  have hc : (Lib.bytesCells w e s).size = s.size + (grownCap w s.size 0 e - s.size) := by
    unfold Lib.bytesCells
    rw [Array.size_append, Array.size_map, Array.size_replicate]
    rfl
  refine .inr ⟨w.heap.size, grownCap w s.size 0 e, by rw [nbN_length], Nat.le_refl _, by rw [nbN_length]; exact hg, fun j hj => ?_, fun j hj => ⟨?_, ?_⟩, by rw [Lib.bytesWorld_size]; omega⟩
  · rw [nbN_length] at hj
    rw [Lib.bytesWorld_cell w e s j hj]
    simp only [nbN, List.getD_eq_getElem?_getD, List.getElem?_map]
    cases s.data.toList[j]? <;> rfl
  · simp only [World.cell?, Lib.bytesWorld_at_new]
    simp [Array.getElem?_eq_getElem (show j < (Lib.bytesCells w e s).size by omega)]
  · simp only [World.frozen?, Lib.bytesWorld_at_new]
    have : ¬ (Lib.bytesCells w e s).size ≤ j := by omega
    simp [this]
theorem below_ofText (w : World) (e : TypeId) (s : ByteArray) : Below w.heap.size w (Lib.bytesWorld w e s) := ⟨rfl, rfl, rfl, by rw [Lib.bytesWorld_size]; omega, fun i hi => Lib.bytesWorld_at_old w e s i hi⟩
theorem cell_new1 (w : World) (t : TypeId) (x : Int) (y : Nat) (h : (y : Int) = x) : ∀ j, j < 1 → (w.alloc (.cells #[.int .u8 x] t)).cell? ((⟨w.heap.size, 0, none⟩ : Addr).add j) = some (.int .u8 (([y].getD j 0 : Nat) : Int)) := by
  intro j hj
  obtain rfl : j = 0 := by omega
  rw [Arr.add_plain, (Row.new w _ t).cell, ← h]
  rfl
theorem cell_new4 (w : World) (t : TypeId) (x0 x1 x2 x3 : Int) (y0 y1 y2 y3 : Nat) (h0 : (y0 : Int) = x0) (h1 : (y1 : Int) = x1) (h2 : (y2 : Int) = x2) (h3 : (y3 : Int) = x3) :
    ∀ j, j < 4 → (w.alloc (.cells #[.int .u8 x0, .int .u8 x1, .int .u8 x2, .int .u8 x3] t)).cell? ((⟨w.heap.size, 0, none⟩ : Addr).add j) = some (.int .u8 (([y0, y1, y2, y3].getD j 0 : Nat) : Int)) := by
  intro j hj
  rw [Arr.add_plain, (Row.new w _ t).cell, ← h0, ← h1, ← h2, ← h3, Nat.zero_add]
  rcases (show j = 0 ∨ j = 1 ∨ j = 2 ∨ j = 3 by omega) with rfl | rfl | rfl | rfl <;> rfl
/-- append of some bytes, as it runs. -/
theorem run_buf (w : World) (ty : TypeId) (base : Nat) (v : Value) (bs : List Nat) (hbuf : Buf w base v bs) (ad : Addr) (m c : Nat) (ys : List Nat) (hm : ys.length = m)
    (hcells : ∀ j, j < m → w.cell? (ad.add j) = some (.int .u8 (ys.getD j 0 : Int))) (hlen : bs.length + m ≤ 140737488355328) (hbase : base ≤ w.heap.size) :
    ∃ v' w', (Builtin.append_ #[78, 78] ty #[v, .slice (some ad) m c]).run Tryd.prog w = .ok v' w' ∧ Buf w' base v' (bs ++ ys) ∧ Below base w w' := by
  obtain ⟨i, hi, hz, hsz, hby⟩ := info_u8
  have hnews : ∀ j u, (cellsOf ys)[j]? = some u → w.cell? (ad.add j) = some u := fun j u hu => by
    by_cases hj : j < ys.length
    · rw [cellsOf_get ys j hj] at hu; rw [← hu]; exact hcells j (by omega)
    · rw [List.getElem?_eq_none (by rw [cellsOf_length]; omega)] at hu; exact absurd hu (by simp)
  have hcl : (cellsOf ys).length = m * i.size := by rw [cellsOf_length, hm, hsz, Nat.mul_one]
  have hca : cellsOf bs ++ cellsOf ys = cellsOf (bs ++ ys) := (List.map_append ..).symm
  rcases hbuf with ⟨rfl, rfl⟩ | ⟨g, cap, rfl, h2, h3, h4, h5, h6⟩
  · obtain ⟨v', w', k0, k1, k2, _⟩ := run_append_own (P := Tryd.prog) w base 78 ty 5 i _ 1 1 Tryd.underlying78 hi hz hsz hby rfl (by decide) (.slice none 0 0) 0 [] (World.ownsRow_nil _ _ _ _) ad m c (cellsOf ys) (by rw [hcl, hsz]) hnews (cellsOf_one ys) (by unfold maxLen; omega) (by omega) hbase
    exact ⟨v', w', k0, Buf.of_row (e := 5) (by simpa [hm] using k1), ⟨k2.os, k2.tape, k2.output, k2.size, fun k hk => k2.block k (by omega) (by simp [Value.ownBlock])⟩⟩
  · by_cases hr : bs.length + m ≤ cap
    · have hrun := run_append_room_cells (P := Tryd.prog) w 78 ty 5 i Tryd.underlying78 hi g 0 bs.length cap ad m c (cellsOf ys) hcl hnews (cellsOf_one ys) hr
        (fun j hj => by rw [hsz, Nat.zero_add, Nat.mul_one]; rw [cellsOf_length, hm] at hj; exact (h5 _ (by omega)).1) (fun j hj => by rw [hsz, Nat.zero_add, Nat.mul_one]; rw [cellsOf_length, hm] at hj; exact (h5 _ (by omega)).2)
      rw [hsz, Nat.zero_add, Nat.mul_one] at hrun
      refine ⟨_, _, hrun, .inr ⟨g, cap, by rw [List.length_append, hm], h2, by rw [List.length_append, hm]; exact hr, fun j hj => ?_, fun j hj => ⟨?_, ?_⟩, ?_⟩, ?_⟩
      · rw [List.length_append] at hj
        by_cases hl : j < bs.length
        · rw [World.cell?_setCells_out g _ _ _ _ (fun _ _ => .inl hl), h4 j hl, getD_append_lt _ _ _ hl]
        · obtain ⟨i2, rfl⟩ : ∃ i2, j = bs.length + i2 := ⟨j - bs.length, by omega⟩
          rw [World.cell?_setCells_in g (cellsOf ys) bs.length w (fun q hq => (h5 _ (by rw [cellsOf_length] at hq; omega)).1) i2 (by rw [cellsOf_length]; omega), getD_append_ge]
          have := cellsOf_get ys i2 (by omega)
          rw [List.getElem?_eq_getElem (by rw [cellsOf_length]; omega)] at this
          exact this
      · exact isSome_cells g _ _ _ _ (h5 j hj).1
      · rw [World.frozen?_setCells]; exact (h5 j hj).2
      · rw [size_cells]; exact h6
      · exact below_cells h2 _ _ _
    · obtain ⟨v', w', hrun, k1, k2⟩ := run_append_arg_grows (P := Tryd.prog) w 78 ty 5 i _ 1 1 Tryd.underlying78 hi hz hsz hby rfl (by decide) ⟨g, 0, none⟩ bs.length cap (cellsOf bs) (by rw [cellsOf_length, Nat.mul_one])
        (fun j u hu => by
          rw [Arr.add_plain, Nat.zero_add]
          by_cases hj : j < bs.length
          · rw [cellsOf_get bs j hj] at hu; rw [← hu]; exact h4 j hj
          · rw [List.getElem?_eq_none (by rw [cellsOf_length]; omega)] at hu; exact absurd hu (by simp)) ad m c (cellsOf ys) (by rw [hcl, hsz]) hnews (by omega) (by unfold maxLen; omega) (by omega)
      exact ⟨v', w', hrun, Buf.mono (Buf.of_row (e := 5) (base := w.heap.size) (by rw [hca] at k1; rw [List.length_append, hm]; exact k1)) hbase, ⟨k2.os, k2.tape, k2.output, k2.size, fun k hk => k2.block k (by omega) (by simp)⟩⟩
variable {ops : Array Oper} {rest : List Oper} {o : Oper} {a : Act} {w : World} {Q : Exit → Act → World → Prop}
/-- append of some bytes. -/
theorem wpList_buf (hgd : o.guard = none) (s x : Operand) (ho : o.op = .call { callee := .builtin .append, args := #[s, x], argTypes := #[78, 78] })
    (base : Nat) (v : Value) (bs : List Nat) (hs : a.eval s = v) (hbuf : Buf w base v bs) (ad : Addr) (m c : Nat) (ys : List Nat) (hx : a.eval x = .slice (some ad) m c) (hm : ys.length = m)
    (hcells : ∀ j, j < m → w.cell? (ad.add j) = some (.int .u8 (ys.getD j 0 : Int))) (hlen : bs.length + m ≤ 140737488355328) (hbase : base ≤ w.heap.size)
    (h : ∀ v' w', Buf w' base v' (bs ++ ys) → Below base w w' → wpList Tryd.prog ops Q rest (a.put o.dst v') w') : wpList Tryd.prog ops Q (o :: rest) a w := by
  obtain ⟨v', w', hrun, h1, h2⟩ := run_buf w o.type base v bs hbuf ad m c ys hm hcells hlen hbase
  refine wpList_plain hgd fun K hK => ?_
  unfold Oper.wp
  simp [execOp, ho, resolve, invoke, builtin, hs, hx, hrun, Result.andThen]
  exact hK _ _ (h v' w' h1 h2)
/-- .. as one step of a region that draws. -/
theorem step_buf {K : Act → World → Prop} {E : Prop} (hgd : o.guard = none) (s x : Operand) (ho : o.op = .call { callee := .builtin .append, args := #[s, x], argTypes := #[78, 78] })
    (base : Nat) (v : Value) (bs : List Nat) (hs : a.eval s = v) (hbuf : Buf w base v bs) (ad : Addr) (m c : Nat) (ys : List Nat) (hx : a.eval x = .slice (some ad) m c) (hm : ys.length = m)
    (hcells : ∀ j, j < m → w.cell? (ad.add j) = some (.int .u8 (ys.getD j 0 : Int))) (hlen : bs.length + m ≤ 140737488355328) (hbase : base ≤ w.heap.size)
    (h : ∀ v' w', Buf w' base v' (bs ++ ys) → Below base w w' → K (a.put o.dst v') w') : if Region.wanted o (yielded ops a.tmps) = true then Oper.wp Tryd.prog o a w K Q else E := by
  obtain ⟨v', w', hrun, h1, h2⟩ := run_buf w o.type base v bs hbuf ad m c ys hm hcells hlen hbase
  have hw : Region.wanted o (yielded ops a.tmps) = true := by simp [Region.wanted, hgd]
  rw [if_pos hw]
  unfold Oper.wp
  simp [execOp, ho, resolve, invoke, builtin, hs, hx, hrun, Result.andThen]
  exact h v' w' h1 h2
end Go.Proofs.YtcenfedmbicofaaDoor.Buf
