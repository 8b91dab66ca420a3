/- Merge: in plain terms; its told function. -/
import Derived.Test.YtahkpcbemnfllaaDoorPush
set_option linter.unusedVariables false
set_option linter.unusedSimpArgs false
namespace Go.Proofs.YtahkpcbemnfllaaDoor.Comp
open Go.RowKit Go.Proofs.YtahkpcbemnfllaaDoor.Base Go.Proofs.YtahkpcbemnfllaaDoor.Mem Go.Proofs.YtahkpcbemnfllaaDoor.Strs Go.Proofs.YtahkpcbemnfllaaDoor.ShaDig Go.Proofs.YtahkpcbemnfllaaDoor.TreeHash Go.Proofs.YtahkpcbemnfllaaDoor.Cov
open Go.Proofs.YtahkpcbemnfllaaDoor.Lst (OwnA Adr OwnA.shape Kp own_below Lst ac ac_append ac_length infoAddr own_lt own_base own_shape own_kp)

/-- Nodes put behind one after the other. -/
def behG (k : Int) (s : List Md × List Md) (l : List Md) : List Md × List Md := l.foldl (fun s x => ((beh k s.1 x).1, s.2 ++ (beh k s.1 x).2)) s
abbrev behs (k : Int) (st l : List Md) : List Md × List Md := behG k (st, []) l
theorem behG_step (k : Int) (s : List Md × List Md) (l : List Md) (j : Nat) (h : j < l.length) :
    behG k s (l.take (j + 1)) = ((beh k (behG k s (l.take j)).1 (l.getD j md0)).1, (behG k s (l.take j)).2 ++ (beh k (behG k s (l.take j)).1 (l.getD j md0)).2) := by
  unfold behG
  rw [List.take_succ_eq_append_getElem h, List.foldl_append]
  have e : l.getD j md0 = l[j] := by simp [List.getD_eq_getElem?_getD, h]
  rw [e]
  rfl
theorem behG_len (k : Int) (l : List Md) : ∀ s, (behG k s l).1.length + (behG k s l).2.length = s.1.length + s.2.length + l.length := by
  induction l with
  | nil => intro s; rfl
  | cons x l ih =>
    intro s
    have h1 := ih ((beh k s.1 x).1, s.2 ++ (beh k s.1 x).2)
    have h2 := beh_len k s.1 x
    simp only [List.length_append] at h1
    show (behG k ((beh k s.1 x).1, s.2 ++ (beh k s.1 x).2) l).1.length + _ = _
    rw [List.length_cons]
    have h3 : (behG k s (x :: l)).2 = (behG k ((beh k s.1 x).1, s.2 ++ (beh k s.1 x).2) l).2 := rfl
    rw [h3]
    omega
theorem behG_ok (k : Int) (l : List Md) : ∀ s, (∀ y ∈ s.1, okM y) → (∀ y ∈ l, okM y) → ∀ y ∈ (behG k s l).1, okM y := by
  induction l with
  | nil => intro s h _; exact h
  | cons x l ih =>
    intro s h hl
    exact ih ((beh k s.1 x).1, s.2 ++ (beh k s.1 x).2) (beh_ok h (hl x (by simp))).1 (fun y hy => hl y (by simp [hy]))
theorem behG_wid (k : Int) (l : List Md) : ∀ s, behG (wid k : Int) s l = behG k s l := by
  induction l with
  | nil => intro s; rfl
  | cons x l ih =>
    intro s
    show behG (wid k : Int) ((beh (wid k : Int) s.1 x).1, s.2 ++ (beh (wid k : Int) s.1 x).2) l = behG k ((beh k s.1 x).1, s.2 ++ (beh k s.1 x).2) l
    rw [ih, beh_wid]
def mergeE (k alo ahi : Int) (aa : List ByteArray) (blo bhi : Int) (bb : List ByteArray) : Int := if chk k alo ahi aa ≠ 0 then chk k alo ahi aa else if chk k blo bhi bb ≠ 0 then chk k blo bhi bb else if ahi ≠ blo then 70 else 0
def mergeN (k alo ahi : Int) (aa : List ByteArray) (blo bhi : Int) (bb : List ByteArray) : List Md × List Md := if mergeE k alo ahi aa blo bhi bb ≠ 0 then ([], []) else behs k ((covL alo ahi).zip aa) ((covL blo bhi).zip bb)
def mergeLo (k alo ahi : Int) (aa : List ByteArray) (blo bhi : Int) (bb : List ByteArray) : Int := if mergeE k alo ahi aa blo bhi bb ≠ 0 then 0 else alo
def mergeHi (k alo ahi : Int) (aa : List ByteArray) (blo bhi : Int) (bb : List ByteArray) : Int := if mergeE k alo ahi aa blo bhi bb ≠ 0 then 0 else bhi
def MergeA (k alo ahi : Int) (aa : List ByteArray) (blo bhi : Int) (bb : List ByteArray) : World → Ending → World → Prop :=
  Ans (mergeLo k alo ahi aa blo bhi bb) (mergeHi k alo ahi aa blo bhi bb) (mergeE k alo ahi aa blo bhi bb) ((mergeN k alo ahi aa blo bhi bb).1.map (·.2)) (mergeN k alo ahi aa blo bhi bb).2
theorem mergeA_bad {k alo ahi blo bhi z : Int} {aa bb : List ByteArray} {w w' : World} (he : mergeE k alo ahi aa blo bhi bb = z) (hz : z ≠ 0) (b : Below w.heap.size w w') : MergeA k alo ahi aa blo bhi bb w (.returned (.tuple #[fv 0 0 none 0 0, .slice none 0 0, .int .i64 z])) w' := by
  unfold MergeA mergeLo mergeHi mergeN
  rw [he, if_pos hz, if_pos hz, if_pos hz]
  exact ans_none z b
theorem mergeN_len (k alo ahi : Int) (aa : List ByteArray) (blo bhi : Int) (bb : List ByteArray) : (mergeN k alo ahi aa blo bhi bb).1.length ≤ 4000 ∧ (mergeN k alo ahi aa blo bhi bb).2.length ≤ 4000 := by
  unfold mergeN
  split
  · simp
  · have h1 := behG_len k ((covL blo bhi).zip bb) ((covL alo ahi).zip aa, [])
    have h2 := covL_len alo ahi
    have h3 := covL_len blo bhi
    simp only [List.length_zip, List.length_nil] at h1
    unfold behs
    omega
set_option maxRecDepth 100000 in
set_option maxHeartbeats 1000000 in
theorem mergeTell : Tells 45 := by
  intro B q mv md x w hq ho hof hB hl
  have hb0 : Below w.heap.size w (w.alloc (.cells #[.int .i64 (x.1.1 : Int), .int .i64 (x.1.2 : Int), .string x.2] 54)) := (Below.refl _ w).alloc (Nat.le_refl _) _
  have r1 := Row.new w #[.int .i64 (x.1.1 : Int), .int .i64 (x.1.2 : Int), .string x.2] 54
  have c0 := r1.cell 0
  have c1 := r1.cell 1
  have c2 := r1.cell 2
  have q0 := (hq.below hb0 hq.lt).cell 0
  have HQ := Lib.hid hq
  have HO := Lib.hid ho
  have HOF := Lib.hid hof
  have HB := Lib.hid hb0
  clear hq ho hof hb0 r1
  go_enter Tryd.func45, Tryd.ntmps45
  go_wp2_with (at_builtin; refine wpList_appM rfl (.tmp 3) (.tmp 5) rfl B mv md x (w.heap.size + 1) (by rfl) (by rfl) (World.ownsRow.alloc (own_below HO.out HB.out) _) (by rw [show w.heap.size + 1 = (w.alloc (.cells #[.int .i64 (x.1.1 : Int), .int .i64 (x.1.2 : Int), .string x.2] 54)).heap.size by simp]; exact heap_alloc_new _ _) (by simp; omega) hl ?_; intro g cap w1 h1; have HT := Lib.hid (behind_told (HB.out.alloc (by simp) _) HQ.out HO.out HOF.out h1); have h2 := h1.2.1; have qq := ((HQ.out.below HB.out HQ.out.lt).alloc (.cells #[.int .i64 (x.1.1 : Int), .int .i64 (x.1.2 : Int), .string x.2] 54)).kept h2 (fun e => HOF.out e.symm); have qc := qq.cell 0; have qf := qq.free 0; clear h1 h2 qq)
  go_end0
  exact HT.out
end Go.Proofs.YtahkpcbemnfllaaDoor.Comp
