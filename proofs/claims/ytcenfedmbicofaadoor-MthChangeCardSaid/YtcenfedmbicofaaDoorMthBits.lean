/- Bits for MthSplit and MthChange. -/
import Derived.Test.YtcenfedmbicofaaDoorMthGrown
import Derived.Deep.RegionHeld3
set_option linter.unusedVariables false
set_option linter.unusedSimpArgs false
namespace Go.Proofs.YtcenfedmbicofaaDoor.Mth
open Go.RowKit Go.Proofs.YtcenfedmbicofaaDoor.Base Go.Proofs.YtcenfedmbicofaaDoor.ShaPlain Go.Proofs.YtcenfedmbicofaaDoor.ShaDig Go.Proofs.YtcenfedmbicofaaDoor.TreeHash Go.Proofs.YtcenfedmbicofaaDoor.Strs Go.Proofs.YtcenfedmbicofaaDoor.Mem

theorem chain {w W W' : World} (B : Below w.heap.size w W) (C : Below W.heap.size W W') : Below w.heap.size w W' := B.trans (C.mono B.size)
theorem root_some (k : Int) (l : List ByteArray) : (root k l).toList.isEmpty = false := by
  have h := (wid_le k).1
  rw [← root_size k l] at h
  rw [List.isEmpty_eq_false_iff]
  intro e
  rw [Base.toList_data] at e
  have e2 := congrArg List.length e
  rw [Array.length_toList] at e2
  have e3 : (root k l).size = 0 := e2
  omega
theorem ne_beq {x y : ByteArray} (h : x ≠ y) : (x.toList == y.toList) = false ∧ (x.toList != y.toList) = true := by
  have : (x.toList == y.toList) = false := by rw [Base.toList_beq]; simp [h]
  exact ⟨this, by rw [bne, this]; rfl⟩
theorem own_row {w : World} {base g n c : Nat} {ss : List ByteArray} (h : Own w base (.slice (some ⟨g, 0, none⟩) n c) ss) : base ≤ g ∧ ∃ cur, Row w g cur 9 := by
  rcases h.2 with ⟨h0, _⟩ | ⟨g', cap, cur, e, hb, hh, _⟩
  · cases h0
  · injection e with e1 e2 e3
    injection e1 with e1
    injection e1 with e1
    subst e1
    exact ⟨hb, cur, hh⟩
theorem strs_set {w : World} {g n i : Nat} {ss : List ByteArray} (h : Strs w (some ⟨g, 0, none⟩) n ss) (hi : i < n) (x : ByteArray) : Strs (w.setCell ⟨g, i, none⟩ (.string x)) (some ⟨g, 0, none⟩) n (ss.set i x) := by
  refine ⟨by rw [List.length_set, h.1], fun hp => ?_⟩
  obtain ⟨ad, e, hb, hc⟩ := h.2 hp
  obtain rfl := (Option.some.inj e).symm
  refine ⟨_, rfl, by simpa using hb, fun j hj => ?_⟩
  have hj' := hc j hj
  rw [Arr.add_plain, Nat.zero_add] at hj' ⊢
  have hi' := hc i hi
  rw [Arr.add_plain, Nat.zero_add] at hi'
  by_cases hij : i = j
  · subst hij
    rw [World.cell?_setCell_same _ _ _ hj', List.getD_eq_getElem?_getD, List.getElem?_set_self (by rw [h.1]; exact hi)]
    rfl
  · rw [World.cell?_setCell_other _ _ _ _ (by intro e; injection e with e1 e2 e3; exact hij e2), hj', List.getD_eq_getElem?_getD, List.getD_eq_getElem?_getD, List.getElem?_set_ne hij]
theorem app_inj {a b c d : ByteArray} (h : a ++ b = c ++ d) (hs : a.size = c.size) : a = c ∧ b = d := by
  have h1 := congrArg (fun x : ByteArray => x.data.toList) h
  simp only [ByteArray.data_append, Array.toList_append] at h1
  have h2 := List.append_inj h1 (by rw [Array.length_toList, Array.length_toList]; exact hs)
  exact ⟨by rw [← Base.toList_data, ← Base.toList_data] at h2; exact Base.ext_toList h2.1, by rw [← Base.toList_data, ← Base.toList_data, ← Base.toList_data, ← Base.toList_data] at h2; exact Base.ext_toList h2.2⟩
theorem split_ne {xs ys : List ByteArray} {p : Nat} (h : xs ≠ ys) (ht : xs.take p = ys.take p) : xs.drop p ≠ ys.drop p := fun e => h (by rw [← List.take_append_drop p xs, ← List.take_append_drop p ys, ht, e])
theorem All.set {ss : List ByteArray} (h : All ss) (i : Nat) {x : ByteArray} (hx : x.size ≤ 140737488351232) : All (ss.set i x) := fun s hs => by
  rcases List.mem_or_eq_of_mem_set hs with h1 | rfl
  · exact h s h1
  · exact hx
end Go.Proofs.YtcenfedmbicofaaDoor.Mth
