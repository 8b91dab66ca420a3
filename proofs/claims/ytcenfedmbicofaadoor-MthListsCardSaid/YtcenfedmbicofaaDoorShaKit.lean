/- copy from a text, and a Hash in memory: what it holds. -/
import Derived.Test.YtcenfedmbicofaaDoorShaBlocks
import Derived.Lib.BufferWrite
import Derived.Deep.RegionLaw
set_option linter.unusedVariables false
set_option linter.unusedSimpArgs false
namespace Go.Proofs.YtcenfedmbicofaaDoor.ShaKit
open Go.RowKit Go.Lib Go.Proofs.YtcenfedmbicofaaDoor.Base Go.Proofs.YtcenfedmbicofaaDoor.ShaPlain Go.Proofs.YtcenfedmbicofaaDoor.ShaRot Go.Proofs.YtcenfedmbicofaaDoor.Arr Go.Proofs.YtcenfedmbicofaaDoor.Mem Go.Proofs.YtcenfedmbicofaaDoor.ShaWords Go.Proofs.YtcenfedmbicofaaDoor.ShaTake Go.Proofs.YtcenfedmbicofaaDoor.ShaBlocks

theorem run_copy_str {P : Program} (w : World) (dT sT ty elem : TypeId) (g o dLen dCap : Nat) (s : ByteArray) (cur : Array Value) (t : TypeId)
    (hu : P.underlying dT = some (.slice elem)) (hs : (P.info? elem).map (·.size) = some 1) (hg : w.heap[g]? = some (.cells cur t (0, 0))) (hfit : o + Nat.min s.size dLen ≤ cur.size) :
    (Builtin.copy_ #[dT, sT] ty #[.slice (some ⟨g, o, none⟩) dLen dCap, .string s]).run P w =
      .ok (goInt (Nat.min s.size dLen)) (w.setRow g (cur.toList.take o ++ byteCells (s.data.toList.take (Nat.min s.size dLen)) ++ cur.toList.drop (o + Nat.min s.size dLen)).toArray) := by
  have hlen : (byteCells (s.data.toList.take (Nat.min s.size dLen))).length = Nat.min s.size dLen := by
    rw [byteCells_length, List.length_take, ← size_eq]
    exact Nat.min_eq_left (Nat.min_le_left _ _)
  have hst := run_storeCells_at P g o t (byteCells (s.data.toList.take (Nat.min s.size dLen))) 0 cur w hg (by rw [hlen]; simpa using hfit) (byteCells_one _)
  have htk : List.take (Nat.min s.size dLen) (List.map (fun b : UInt8 => Value.int IntKind.u8 (b.toNat : Int)) s.data.toList) = byteCells (s.data.toList.take (Nat.min s.size dLen)) := by
    unfold byteCells; rw [List.map_take]
  rw [hlen] at hst
  simp only [Nat.add_zero] at hst
  generalize hm : Nat.min s.size dLen = m at *
  cases hq : P.info? elem with
  | none => simp [hq] at hs
  | some i =>
    have hm' : min s.size dLen = m := hm
    simp [Builtin.copy_, run_underlying hu, Builtin.lenOf, Builtin.firstCells, sizeOf, typeInfo, hq, hm, hm']
    rw [htk, hst]
    simp [Result.andThen]
theorem wpList_copy_str {P : Program} {w : World} {ops : Array Oper} {rest : List Oper} {o : Oper} {a : Act} {Q : Exit → Act → World → Prop} (hgd : o.guard = none) (d s : Operand) (dT sT : TypeId)
    (ho : o.op = .call { callee := .builtin .copy, args := #[d, s], argTypes := #[dT, sT] }) (elem : TypeId) (hu : P.underlying dT = some (.slice elem)) (hsz : (P.info? elem).map (·.size) = some 1)
    (g off dLen dCap : Nat) (x : ByteArray) (hd : a.eval d = .slice (some ⟨g, off, none⟩) dLen dCap) (hs : a.eval s = .string x)
    (cur : Array Value) (t : TypeId) (hg : w.heap[g]? = some (.cells cur t (0, 0))) (hfit : off + Nat.min x.size dLen ≤ cur.size)
    (h : wpList P ops Q rest (a.put o.dst (goInt (Nat.min x.size dLen))) (w.setRow g (cur.toList.take off ++ byteCells (x.data.toList.take (Nat.min x.size dLen)) ++ cur.toList.drop (off + Nat.min x.size dLen)).toArray)) : wpList P ops Q (o :: rest) a w := by
  refine wpList_plain hgd fun K hK => ?_
  have hrun := run_copy_str (P := P) w dT sT o.type elem g off dLen dCap x cur t hu hsz hg hfit
  unfold Oper.wp
  generalize (w.setRow g (cur.toList.take off ++ byteCells (x.data.toList.take (Nat.min x.size dLen)) ++ cur.toList.drop (off + Nat.min x.size dLen)).toArray) = w2 at *
  generalize Nat.min x.size dLen = m at *
  simp [execOp, ho, resolve, invoke, builtin, hd, hs, hrun, Result.andThen]
  exact hK _ _ h
theorem step_copy_str {P : Program} {ops : Array Oper} {o : Oper} {a : Act} {w : World} {K : Act → World → Prop} {Q : Exit → Act → World → Prop} {E : Prop} (hgd : o.guard = none) (d s : Operand) (dT sT : TypeId)
    (ho : o.op = .call { callee := .builtin .copy, args := #[d, s], argTypes := #[dT, sT] }) (elem : TypeId) (hu : P.underlying dT = some (.slice elem)) (hsz : (P.info? elem).map (·.size) = some 1)
    (g off dLen dCap : Nat) (x : ByteArray) (hd : a.eval d = .slice (some ⟨g, off, none⟩) dLen dCap) (hs : a.eval s = .string x)
    (cur : Array Value) (t : TypeId) (hg : w.heap[g]? = some (.cells cur t (0, 0))) (hfit : off + Nat.min x.size dLen ≤ cur.size)
    (h : K (a.put o.dst (goInt (Nat.min x.size dLen))) (w.setRow g (cur.toList.take off ++ byteCells (x.data.toList.take (Nat.min x.size dLen)) ++ cur.toList.drop (off + Nat.min x.size dLen)).toArray)) :
    if Region.wanted o (yielded ops a.tmps) = true then Oper.wp P o a w K Q else E := by
  have hw : Region.wanted o (yielded ops a.tmps) = true := by simp [Region.wanted, hgd]
  rw [if_pos hw]
  have hrun := run_copy_str (P := P) w dT sT o.type elem g off dLen dCap x cur t hu hsz hg hfit
  unfold Oper.wp
  generalize (w.setRow g (cur.toList.take off ++ byteCells (x.data.toList.take (Nat.min x.size dLen)) ++ cur.toList.drop (off + Nat.min x.size dLen)).toArray) = w2 at *
  generalize Nat.min x.size dLen = m at *
  simp [execOp, ho, resolve, invoke, builtin, hd, hs, hrun, Result.andThen]
  exact h
theorem byteCells_nb (l : List UInt8) : byteCells l = (l.map UInt8.toNat).map fun x : Nat => Value.int .u8 (x : Int) := by simp [byteCells]
/-- What copy leaves of a Hash. -/
theorem hcells_splice (s : St) (r : List Nat) (n : Int) (h m : Nat) (x : ByteArray) (hr : r.length = 64) (hh : h + m ≤ 64) (hm : m ≤ x.size) :
    ((hcells s r n).toList.take (8 + h) ++ byteCells (x.data.toList.take m) ++ (hcells s r n).toList.drop (8 + h + m)).toArray = hcells s (r.take h ++ (nbN x).take m ++ r.drop (h + m)) n := by
  rw [byteCells_nb, List.map_take]
  show _ = _
  unfold hcells hw
  apply congrArg List.toArray
  have h8 : (s.list.map fun x : Nat => Value.int .u32 (x : Int)).length = 8 := rfl
  generalize (s.list.map fun x : Nat => Value.int .u32 (x : Int)) = A at *
  have hn : (r.map fun x : Nat => Value.int .u8 (x : Int)).length = 64 := by rw [List.length_map, hr]
  simp only [List.toList_toArray, List.map_append, List.map_take, List.map_drop]
  change _ = A ++ (List.take h _ ++ List.take m (((x.data.toList.map UInt8.toNat)).map _) ++ List.drop (h + m) _ ++ _)
  generalize (r.map fun x : Nat => Value.int .u8 (x : Int)) = R at *
  rw [List.take_append, List.take_of_length_le (by omega), h8, List.take_append, hn, List.drop_append, List.drop_of_length_le (by omega), List.nil_append, h8, List.drop_append, hn]
  simp [show 8 + h - 8 = h by omega, show 8 + h + m - 8 = h + m by omega, show h - 64 = 0 by omega, show h + m - 64 = 0 by omega]
theorem hcells_size (s : St) (r : List Nat) (n : Int) (hr : r.length = 64) : (hcells s r n).size = 73 := by simp [hcells, hw, St.list, hr]
/-- The Hash in the block b holds this text. -/
def Hash (K : List Nat) (s0 : St) (w : World) (b : Nat) (t : List Nat) : Prop :=
  ∃ r, Row w b (hcells (feed K s0 t (t.length / 64)) r (t.length : Int)) 110 ∧ r.length = 64 ∧ (∀ x ∈ r, x < 256) ∧ r.take (t.length % 64) = t.drop (64 * (t.length / 64))
theorem cell_n (s : St) (r : List Nat) (n : Int) (hr : r.length = 64) : (hcells s r n)[72]? = some (.int .i64 n) := by
  unfold hcells hw
  rw [List.getElem?_toArray, List.getElem?_append_right (by simp [St.list]), List.getElem?_append_right (by simp [St.list, hr])]
  simp [St.list, hr]
theorem set_n (s : St) (r : List Nat) (n m : Int) (hr : r.length = 64) : (hcells s r n).setIfInBounds 72 (.int .i64 m) = hcells s r m := by
  unfold hcells hw
  rw [List.setIfInBounds_toArray, List.set_append_right _ _ (by simp [St.list]), List.set_append_right _ _ (by simp [St.list, hr])]
  simp [St.list, hr]
theorem cell_r (s : St) (r : List Nat) (n : Int) (j : Nat) (hj : j < r.length) : (hcells s r n)[8 + j]? = some (.int .u8 (r.getD j 0 : Int)) := by
  unfold hcells hw
  rw [List.getElem?_toArray, List.getElem?_append_right (by simp [St.list]), List.getElem?_append_left (by simp [St.list]; omega)]
  simp [St.list, List.getD_eq_getElem?_getD, hj]
/-! ### plain: a text in blocks -/
theorem feed_append (K : List Nat) (s : St) (t p : List Nat) (k : Nat) (h : 64 * k ≤ t.length) : feed K s (t ++ p) k = feed K s t k := by
  induction k with
  | zero => rfl
  | succ k ih =>
    rw [feed, feed, ih (by omega)]
    congr 1
    rw [List.drop_append_of_le_length (by omega), List.take_append_of_le_length (by rw [List.length_drop]; omega)]
theorem feed_more (K : List Nat) (s : St) (t p : List Nat) (q m : Nat) (h : t.length = 64 * q) : feed K s (t ++ p) (q + m) = feed K (feed K s t q) p m := by
  induction m with
  | zero => exact feed_append K s t p q (by omega)
  | succ m ih =>
    rw [← Nat.add_assoc, feed, ih, feed]
    congr 1
    rw [List.drop_append, List.drop_of_length_le (by omega), List.nil_append, h]
    congr 2
    omega
end Go.Proofs.YtcenfedmbicofaaDoor.ShaKit
