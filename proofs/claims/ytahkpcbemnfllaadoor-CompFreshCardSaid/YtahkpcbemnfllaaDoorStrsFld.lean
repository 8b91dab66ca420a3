/- A slice of texts within a struct that comes in by value. -/
import Derived.Test.YtahkpcbemnfllaaDoorStrs
import Derived.Lib.SmallJoins
set_option linter.unusedVariables false
set_option linter.unusedSimpArgs false
namespace Go.Proofs.YtahkpcbemnfllaaDoor.Strs
open Go.RowKit Go.ChangeShapes Go.WideShapes Go.Proofs.YtahkpcbemnfllaaDoor.Mem

theorem came_fld {H : Type} {enc : TypeId × Value → H} {P : Program} {W : World} {held : Bool} {t t2 e : TypeId} {fs : Array Field} {v : Value} {y : DataW H × List MemPlace} {parts : List (DataW H)} {ts : List TypeId} {ds : List (DataW H)} {j i n : Nat}
    (hsz : (DataW.weightsEach P ts ds).all (· ≤ reachBytes) = true) (ht : ts[j]? = some t) (hd : ds[j]? = some (.agg parts)) (hu : P.underlying t = some (.struct fs)) (hi : (fs.toList.map (·.type))[i]? = some t2) (hp : parts[i]? = some y.1)
    (hu2 : P.underlying t2 = some (.slice e)) (he : P.underlying e = some .string) (hc : P.cellsOf e = 1) (hB : P.bytesOf e = 16)
    (h : DataW.trod enc P W 0 (fun _ => true) held n t2 [v] = some y) : ∃ a len cap ss, v = .slice a len cap ∧ Came W a len cap ss := by
  have hsz2 : (DataW.weightsEach P (fs.toList.map (·.type)) parts).all (· ≤ reachBytes) = true := by
    rw [List.all_eq_true]
    intro x hx
    exact List.all_eq_true.1 hsz x (DataW.weights_mem_each ht hd x (by simp only [DataW.weights, hu]; exact hx))
  rcases open_strings hu2 he hc h with ⟨hcs, _⟩ | ⟨x, l, c, zs, hcs, _⟩
  · simp only [List.cons.injEq, and_true] at hcs
    subst hcs
    obtain ⟨ss, hss⟩ := came_of hsz2 hi hp hu2 he hc hB (a := none) (len := 0) (cap := 0) (d := y.1) (ps := y.2) ⟨n, by simpa [Value.cells] using h⟩
    exact ⟨_, _, _, ss, rfl, hss⟩
  · simp only [List.cons.injEq, and_true] at hcs
    subst hcs
    obtain ⟨ss, hss⟩ := came_of hsz2 hi hp hu2 he hc hB (a := some x) (len := l) (cap := c) (d := y.1) (ps := y.2) ⟨n, by simpa [Value.cells] using h⟩
    exact ⟨_, _, _, ss, rfl, hss⟩
end Go.Proofs.YtahkpcbemnfllaaDoor.Strs
