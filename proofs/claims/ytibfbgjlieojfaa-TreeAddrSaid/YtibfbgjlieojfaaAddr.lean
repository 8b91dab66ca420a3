/- TreeAddr: of every address Valid, Span and its kin are what the document says; no condition. -/
import Derived.Test.YtibfbgjlieojfaaPTreeAddrx3
import Derived.Test.YtibfbgjlieojfaaBase
set_option linter.unusedSimpArgs false
set_option linter.unusedVariables false
namespace Go.Proofs.Ytibfbgjlieojfaa.Addr
open Go.RowKit Go.Proofs.Ytibfbgjlieojfaa.PTreeAddr Go.Proofs.YtibfbgjlieojfaaW.PrintWords Go.Proofs.YtibfbgjlieojfaaW.PrintLast Go.Proofs.YtibfbgjlieojfaaW.PrintMore Go.Proofs.Ytibfbgjlieojfaa.Base

theorem valid_eq (l i : Int) : annalsref5_Valid.f l i = tree_Valid.f l i ∧ ∃ b, tree_Valid.f l i = some b ∧ (b = true → 0 ≤ l ∧ l ≤ 62) := by
  unfold annalsref5_Valid.f tree_Valid.f
  by_cases h0 : l < 0
  · rw [if_pos h0, if_neg (show ¬ l ≥ 0 by omega)]; exact ⟨rfl, _, rfl, fun h => by cases h⟩
  · rw [if_neg h0, if_pos (show l ≥ 0 by omega)]
    by_cases h1 : l > 62
    · rw [if_pos h1, if_neg (show ¬ l ≤ 62 by omega)]; exact ⟨rfl, _, rfl, fun h => by cases h⟩
    · have hw : IntKind.u64.wrap l = l := u64_in (by omega) (by omega)
      rw [if_neg h1, if_pos (show l ≤ 62 by omega), hw]
      by_cases h2 : i < 0
      · rw [if_pos h2, if_neg (show ¬ i ≥ 0 by omega)]; exact ⟨rfl, _, rfl, fun h => by cases h⟩
      · rw [if_neg h2, if_pos (show 0 ≤ l by omega), if_pos (show i ≥ 0 by omega)]
        exact ⟨rfl, _, rfl, fun _ => ⟨by omega, by omega⟩⟩
theorem span_eq (l i : Int) : annalsref5_Span.f l i = tree_Span.f l i ∧ ∃ r, tree_Span.f l i = some r := by
  obtain ⟨h1, b, h2, h3⟩ := valid_eq l i
  unfold annalsref5_Span.f tree_Span.f
  rw [h1, h2, Option.bind_some, Option.bind_some]
  cases b with
  | false => exact ⟨rfl, _, rfl⟩
  | true =>
    obtain ⟨l0, l1⟩ := h3 rfl
    have hw : IntKind.u64.wrap l = l := u64_in (by omega) (by omega)
    rw [if_pos rfl, if_pos rfl, hw, if_pos l0]
    exact ⟨rfl, _, rfl⟩
theorem kin_eq (l i m j : Int) : annalsref5_kin.f l i m j = tree_kin.f l i m j ∧ ∃ r, tree_kin.f l i m j = some r := by
  obtain ⟨h1, b, h2, _⟩ := valid_eq l i
  obtain ⟨h4, c, h5, _⟩ := valid_eq m j
  unfold annalsref5_kin.f tree_kin.f
  rw [h1, h2, h4, h5, Option.bind_some, Option.bind_some, Option.bind_some, Option.bind_some]
  cases b <;> cases c <;> exact ⟨rfl, _, rfl⟩
theorem pure (l i : Int) : annalslaw5_TreeAddr.f 10 l i = some true := by
  obtain ⟨v1, b, v2, _⟩ := valid_eq l i
  obtain ⟨s1, r, s2⟩ := span_eq l i
  have h1 : annalsref5_Parent.f l i = tree_Parent.f l i ∧ ∃ r, tree_Parent.f l i = some r := by
    unfold annalsref5_Parent.f tree_Parent.f
    obtain ⟨e1, r, e2⟩ := kin_eq l i (wrap64 (l + 1)) (wrap64 (Int.tdiv i 2))
    rw [e1, e2]; exact ⟨rfl, _, rfl⟩
  have h2 : annalsref5_Sibling.f l i = tree_Sibling.f l i ∧ ∃ r, tree_Sibling.f l i = some r := by
    unfold annalsref5_Sibling.f tree_Sibling.f
    obtain ⟨e1, r, e2⟩ := kin_eq l i l (Go.bits .xor .i64 i 1)
    rw [e1, e2]; exact ⟨rfl, _, rfl⟩
  have h3 : annalsref5_Left.f l i = tree_Left.f l i ∧ ∃ r, tree_Left.f l i = some r := by
    unfold annalsref5_Left.f tree_Left.f
    obtain ⟨e1, r, e2⟩ := kin_eq l i (wrap64 (l - 1)) (wrap64 (2 * i))
    rw [e1, e2]; exact ⟨rfl, _, rfl⟩
  have h4 : annalsref5_Right.f l i = tree_Right.f l i ∧ ∃ r, tree_Right.f l i = some r := by
    unfold annalsref5_Right.f tree_Right.f
    obtain ⟨e1, r, e2⟩ := kin_eq l i (wrap64 (l - 1)) (wrap64 ((wrap64 (2 * i)) + 1))
    rw [e1, e2]; exact ⟨rfl, _, rfl⟩
  obtain ⟨p1, p, p2⟩ := h1
  obtain ⟨q1, q, q2⟩ := h2
  obtain ⟨x1, x, x2⟩ := h3
  obtain ⟨y1, y, y2⟩ := h4
  unfold annalslaw5_TreeAddr.f
  rw [s1, s2, v1, v2]
  simp [annalslaw5_num.f, annalslaw5_TreeAddr.j0, annalslaw5_TreeAddr.j1, annalslaw5_TreeAddr.j2, annalslaw5_TreeAddr.j3, p1, p2, q1, q2, x1, x2, y1, y2]
theorem walk (l i : Int) (w : World) (_ : (Lit.int .i64 l).wf = true) (_ : (Lit.int .i64 i).wf = true) :
    Calls Try.prog 4 #[.agg #[.int .i64 l, .int .i64 i]] w fun e w' => e = .returned (.bool true) ∧ Below w.heap.size w w' :=
  annalslaw5_TreeAddr.calls 10 l i true w (pure l i)
end Go.Proofs.Ytibfbgjlieojfaa.Addr
