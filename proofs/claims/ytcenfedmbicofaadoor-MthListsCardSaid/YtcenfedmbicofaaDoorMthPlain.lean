/- Roots in plain terms. -/
import Derived.Test.YtcenfedmbicofaaDoorTreeHash
set_option linter.unusedVariables false
set_option linter.unusedSimpArgs false
namespace Go.Proofs.YtcenfedmbicofaaDoor.Mth
open Go.RowKit Go.Proofs.YtcenfedmbicofaaDoor.Base Go.Proofs.YtcenfedmbicofaaDoor.ShaDig Go.Proofs.YtcenfedmbicofaaDoor.TreeHash

/-- The greatest power of two below n. -/
def sp (n : Nat) : Nat := 2 ^ (n - 1).log2
theorem sp_of {n j : Nat} (h1 : 2 ^ j < n) (h2 : n ≤ 2 * 2 ^ j) : 2 ^ j = sp n := by
  have hp : 0 < 2 ^ j := Nat.two_pow_pos j
  have : (n - 1).log2 = j := (Nat.log2_eq_iff (by omega)).2 ⟨by omega, by rw [Nat.pow_succ]; omega⟩
  rw [sp, this]
theorem sp_spec {n : Nat} (h : 2 ≤ n) : 1 ≤ sp n ∧ sp n < n ∧ n ≤ 2 * sp n := by
  have := (Nat.log2_eq_iff (n := n - 1) (k := (n - 1).log2) (by omega)).1 rfl
  have hp : 0 < 2 ^ (n - 1).log2 := Nat.two_pow_pos _
  rw [Nat.pow_succ] at this
  unfold sp
  omega
/-- A tree over a list, by halves: of no leaf e, of one leaf lf of it, nd above two. -/
def tr (e : ByteArray) (lf : ByteArray → ByteArray) (nd : ByteArray → ByteArray → ByteArray) (l : List ByteArray) : ByteArray :=
  if h : 2 ≤ l.length then nd (tr e lf nd (l.take (sp l.length))) (tr e lf nd (l.drop (sp l.length)))
  else match l with
    | [] => e
    | d :: _ => lf d
termination_by l.length
decreasing_by
  · have := sp_spec h; rw [List.length_take]; omega
  · have := sp_spec h; rw [List.length_drop]; omega
theorem tr_nil (e lf nd) : tr e lf nd [] = e := by rw [tr, dif_neg (by simp)]
theorem tr_one (e lf nd d) : tr e lf nd [d] = lf d := by rw [tr, dif_neg (by simp)]
theorem tr_node (e lf nd) (l : List ByteArray) (h : 2 ≤ l.length) : tr e lf nd l = nd (tr e lf nd (l.take (sp l.length))) (tr e lf nd (l.drop (sp l.length))) := by rw [tr, dif_pos h]
def root (k : Int) (l : List ByteArray) : ByteArray := tr (emptyH k) (leafH k) (nodeH k) l
theorem root_nil (k : Int) : root k [] = emptyH k := tr_nil _ _ _
theorem root_one (k : Int) (d : ByteArray) : root k [d] = leafH k d := tr_one _ _ _ _
theorem root_node (k : Int) (l : List ByteArray) (h : 2 ≤ l.length) : root k l = nodeH k (root k (l.take (sp l.length))) (root k (l.drop (sp l.length))) := tr_node _ _ _ l h
theorem root_size (k : Int) (l : List ByteArray) : (root k l).size = wid k := by
  by_cases h : 2 ≤ l.length
  · rw [root_node k l h, nodeH_size]
  · match l, h with
    | [], _ => rw [root_nil, emptyH_size]
    | [d], _ => rw [root_one, leafH_size]
    | a :: b :: r, h => exact absurd (by simp) h
theorem take_get (l : List ByteArray) (i : Nat) (h : i < l.length) : l.take (i + 1) = l.take i ++ [l.getD i ⟨#[]⟩] := by
  rw [List.take_succ_eq_append_getElem h]
  simp [List.getD_eq_getElem?_getD, h]
theorem one_of {l : List ByteArray} (h : l.length = 1) : l = [l.getD 0 ⟨#[]⟩] := by
  match l, h with
  | [d], _ => rfl
end Go.Proofs.YtcenfedmbicofaaDoor.Mth
