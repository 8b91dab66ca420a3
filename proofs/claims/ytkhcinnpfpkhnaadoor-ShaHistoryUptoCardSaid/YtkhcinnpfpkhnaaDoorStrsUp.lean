/- A slice of texts that comes in, where what is read is small. -/
import Derived.Test.YtkhcinnpfpkhnaaDoorStrs
import Derived.Test.YtkhcinnpfpkhnaaDoorRows
set_option linter.unusedVariables false
set_option linter.unusedSimpArgs false
namespace Go.Proofs.YtkhcinnpfpkhnaaDoor.Strs
open Go.RowKit Go.ChangeShapes Go.WideShapes Go.Proofs.YtkhcinnpfpkhnaaDoor.Mem

theorem bulk_strs {H : Type} (l : List ByteArray) : (∀ s ∈ l, s.size + 1 ≤ Rows.uptoBulkAll (strs (H := H) l)) ∧ l.length ≤ Rows.uptoBulkAll (strs (H := H) l) ∧ True := by
  induction l with
  | nil => exact ⟨fun s h => (by cases h), (by simp), trivial⟩
  | cons x l ih =>
    obtain ⟨h1, h2, _⟩ := ih
    have e : Rows.uptoBulkAll (strs (H := H) (x :: l)) = (x.size + 1) + Rows.uptoBulkAll (strs (H := H) l) := by
      simp only [strs, List.map_cons, Rows.uptoBulkAll, Rows.uptoBulk]
      congr 1
    refine ⟨fun s hs => ?_, by rw [e, List.length_cons]; omega, trivial⟩
    rw [e]
    rcases List.mem_cons.1 hs with rfl | hs
    · omega
    · have := h1 s hs; omega
theorem came_upto {H : Type} {enc : TypeId × Value → H} {P : Program} {W : World} {held : Bool} {t e : TypeId} {a : Option Addr} {len cap : Nat} {d : DataW H} {ps : List MemPlace} {ts : List TypeId} {ds : List (DataW H)} {j : Nat}
    (hsz : (DataW.weightsEach P ts ds).all (· ≤ reachBytes) = true) (ht : ts[j]? = some t) (hd : ds[j]? = some d) (hu : P.underlying t = some (.slice e)) (he : P.underlying e = some .string) (hc : P.cellsOf e = 1) (hB : P.bytesOf e = 16)
    (h : DataW.Trod enc P W 0 (fun _ => true) held t (.slice a len cap) d ps) : ∃ ss, Came W a len cap ss ∧ (∀ s ∈ ss, s.size + 1 ≤ Rows.uptoBulk d) ∧ ss.length ≤ Rows.uptoBulk d := by
  obtain ⟨ss0, hcame⟩ := came_of hsz ht hd hu he hc hB h
  obtain ⟨fuel, hf⟩ := h
  rcases open_strings hu he hc hf with ⟨hcs, _⟩ | ⟨x, l, c, zs, hcs, _, hl, hm, hz, hx, hcell, _⟩
  · simp [Value.cells] at hcs
    obtain ⟨rfl, rfl, rfl⟩ := hcs
    obtain rfl : ss0 = [] := List.eq_nil_of_length_eq_zero hcame.1.len
    exact ⟨[], hcame, fun s hs => (by cases hs), Nat.zero_le _⟩
  · simp [Value.cells] at hcs
    obtain ⟨rfl, rfl, rfl⟩ := hcs
    obtain ⟨hx, _⟩ := Prod.mk.inj hx
    subst hx
    simp only [if_true] at hz
    have hs0 : ss0 = zs.take len := by
      apply List.ext_getElem?
      intro i
      by_cases hi : i < len
      · obtain ⟨ad, e1, _, e2⟩ := hcame.1.at_ i hi
        injection e1 with e1
        subst e1
        rw [hcell i (by omega)] at e2
        injection e2 with e2
        injection e2 with e2
        have hlen := hcame.1.len
        rw [List.getElem?_take_of_lt hi]
        rw [List.getD_eq_getElem?_getD] at e2
        rw [List.getElem?_eq_getElem (by omega), List.getElem?_eq_getElem (by omega)]
        rw [List.getElem?_eq_getElem (by omega)] at e2
        rw [List.getD_eq_getElem?_getD, List.getElem?_eq_getElem (by omega)] at e2
        simpa using e2.symm
      · have hlen := hcame.1.len
        rw [List.getElem?_eq_none (by omega), List.getElem?_eq_none (by rw [List.length_take]; omega)]
    subst hs0
    obtain ⟨b1, b2, _⟩ := bulk_strs (H := H) (zs.take len)
    have hb : Rows.uptoBulk (DataW.slice (strs (H := H) (zs.take len)) (strs (zs.drop len))) = Rows.uptoBulkAll (strs (H := H) (zs.take len)) + Rows.uptoBulkAll (strs (H := H) (zs.drop len)) + 1 := by simp only [Rows.uptoBulk]
    rw [hb]
    exact ⟨_, hcame, fun s hs => by have := b1 s hs; omega, by omega⟩
end Go.Proofs.YtkhcinnpfpkhnaaDoor.Strs
