/- Ten lists that are written full with marks of their own. -/
import Derived.Test.YtcenfedmbicofaaDoorLists2
set_option linter.unusedVariables false
set_option linter.unusedSimpArgs false
namespace Go.Proofs.YtcenfedmbicofaaDoor.Mth
open Go.RowKit Go.Proofs.YtcenfedmbicofaaDoor.Base Go.Proofs.YtcenfedmbicofaaDoor.ShaPlain Go.Proofs.YtcenfedmbicofaaDoor.ShaDig Go.Proofs.YtcenfedmbicofaaDoor.TreeHash Go.Proofs.YtcenfedmbicofaaDoor.Strs Go.Proofs.YtcenfedmbicofaaDoor.Mem Go.Proofs.YtcenfedmbicofaaDoor.Fam

abbrev mkT (k : Nat) : ByteArray := (⟨#[47]⟩ : ByteArray) ++ om k
abbrev mmT (k : Nat) : ByteArray := (⟨#[47, 47]⟩ : ByteArray) ++ om k
abbrev vl (L : List En) (i : Nat) : Value := (L.getD i en0).1
abbrev nl (L : List En) (i : Nat) : Nat := (L.getD i en0).2.length
/-- What does not change. -/
structure Fix (L : List En) (G : Nat) (rows : Array Value) : Prop where
  len : L.length = 12
  rc : ∀ i, i < 10 → rows[i]? = some (vl L i)
  gl : ∀ i, i < 12 → ∀ b, (vl L i).ownBlock = some b → b < G
/-- The first k lists are full of their marks, of the next one the first j texts. -/
structure Mk (w0 : World) (L : List En) (G : Nat) (rows : Array Value) (k j : Nat) (W : World) : Prop where
  ex : ∃ L', L'.length = 12 ∧ (∀ i, vl L' i = vl L i ∧ nl L' i = nl L i) ∧ (∀ i, 10 ≤ i → L'.getD i en0 = L.getD i en0) ∧ Fm w0 L' W ∧ (∀ i, i < k → ∀ q, q < nl L i → (L'.getD i en0).2.getD q ⟨#[]⟩ = mkT i) ∧ (∀ q, q < j → (L'.getD k en0).2.getD q ⟨#[]⟩ = mkT k)
  out : Row W G rows 26
variable {w0 W W' : World} {L : List En} {G k j : Nat} {rows : Array Value}
theorem Mk.start (hf : Fix L G rows) (h : Fm w0 L W) (hr : Row W G rows 26) : Mk w0 L G rows 0 0 W :=
  ⟨⟨L, hf.len, fun i => ⟨rfl, rfl⟩, fun i _ => rfl, h, fun i hi => absurd hi (by omega), fun q hq => absurd hq (by omega)⟩, hr⟩
theorem Mk.next (h : Mk w0 L G rows k j W) (hj : nl L k ≤ j) : Mk w0 L G rows (k + 1) 0 W := by
  obtain ⟨L', h1, h2, h3, h4, h5, h6⟩ := h.ex
  refine ⟨⟨L', h1, h2, h3, h4, fun i hi q hq => ?_, fun q hq => absurd hq (by omega)⟩, h.out⟩
  by_cases hik : i = k
  · subst hik; exact h6 q (by omega)
  · exact h5 i (by omega) q hq
theorem Mk.call (h : Mk w0 L G rows k j W) (b : Below W.heap.size W W') : Mk w0 L G rows k j W' := by
  obtain ⟨L', h1, h2, h3, h4, h5, h6⟩ := h.ex
  exact ⟨⟨L', h1, h2, h3, h4.call b, h5, h6⟩, h.out.below b h.out.lt⟩
theorem Mk.bel (h : Mk w0 L G rows k j W) : Below w0.heap.size w0 W := by
  obtain ⟨L', h1, h2, h3, h4, h5, h6⟩ := h.ex
  exact h4.bel
theorem Mk.shape (h : Mk w0 L G rows k j W) (hf : Fix L G rows) {l : Nat} (hl : l < 12) : ∃ B c, vl L l = .slice B (nl L l) c := by
  obtain ⟨L', h1, h2, h3, h4, h5, h6⟩ := h.ex
  obtain ⟨B, c, e, _, _⟩ := (h4.own l (by omega)).shape
  refine ⟨B, c, ?_⟩
  rw [← (h2 l).1, ← (h2 l).2]; exact e
theorem Mk.look (h : Mk w0 L G rows k j W) (hf : Fix L G rows) {l : Nat} (hl : l < 10) : W.cell? ⟨G, l, none⟩ = some (vl L l) := by
  rw [h.out.cell]; exact hf.rc l hl
/-- One text more. -/
theorem Mk.write (h : Mk w0 L G rows k j W) (hf : Fix L G rows) (hk : k < 10) {B : Option Addr} {n c : Nat} (hv : vl L k = .slice B n c) (hj : j < n) :
    ∃ g, B = some ⟨g, 0, none⟩ ∧ g < W.heap.size ∧ (∃ u, W.cell? ⟨g, j, none⟩ = some u) ∧ W.frozen? ⟨g, j, none⟩ = false ∧ g ≠ G ∧ Mk w0 L G rows k (j + 1) (W.setCell ⟨g, j, none⟩ (.string (mkT k))) := by
  obtain ⟨L', h1, h2, h3, h4, h5, h6⟩ := h.ex
  have hv' : vl L' k = .slice B n c := (h2 k).1.trans hv
  have ho := h4.own k (by omega)
  have ho' : Own W w0.heap.size (.slice B n c) (L'.getD k en0).2 := by rw [← hv']; exact ho
  obtain ⟨g, rfl, hg1, hg2⟩ := block_of ho' (by omega)
  obtain ⟨c1, c2⟩ := cell_of ho' j hj
  have hlen := len_of ho'
  have hgG : g < G := hf.gl k (by omega) g (by rw [hv]; rfl)
  have hw := h4.write (k := k) (by omega) hv' j (mkT k)
  have hs : ∀ i, (L'.set k (vl L' k, (L'.getD k en0).2.set j (mkT k))).getD i en0 = if k = i then (vl L' k, (L'.getD k en0).2.set j (mkT k)) else L'.getD i en0 := fun i => by
    rw [set_getD]
    by_cases hik : k = i
    · rw [if_pos ⟨hik, by omega⟩, if_pos hik]
    · rw [if_neg (fun e => hik e.1), if_neg hik]
  have hset : ∀ q, ((L'.getD k en0).2.set j (mkT k)).getD q ⟨#[]⟩ = if j = q then mkT k else (L'.getD k en0).2.getD q ⟨#[]⟩ := fun q => by
    rw [List.getD_eq_getElem?_getD, List.getElem?_set]
    by_cases hq : j = q
    · subst hq; rw [if_pos rfl, if_pos (by omega), if_pos rfl]; rfl
    · rw [if_neg hq, if_neg hq, ← List.getD_eq_getElem?_getD]
  refine ⟨g, rfl, hg2, ⟨_, c1⟩, c2, by omega, ⟨_, by rw [List.length_set]; exact h1, fun i => ?_, fun i hi => ?_, hw, fun i hi q hq => ?_, fun q hq => ?_⟩, h.out.far ⟨g, j, none⟩ (by show G ≠ g; omega) _⟩
  · show (((L'.set k (vl L' k, (L'.getD k en0).2.set j (mkT k))).getD i en0).1 = _) ∧ ((L'.set k (vl L' k, (L'.getD k en0).2.set j (mkT k))).getD i en0).2.length = _
    rw [hs i]
    by_cases hik : k = i
    · subst hik
      rw [if_pos rfl]
      refine ⟨(h2 k).1, ?_⟩
      show ((L'.getD k en0).2.set j (mkT k)).length = _
      rw [List.length_set]; exact (h2 k).2
    · rw [if_neg hik]; exact h2 i
  · show (L'.set k (vl L' k, (L'.getD k en0).2.set j (mkT k))).getD i en0 = _
    rw [hs i, if_neg (by omega)]; exact h3 i hi
  · show ((L'.set k (vl L' k, (L'.getD k en0).2.set j (mkT k))).getD i en0).2.getD q ⟨#[]⟩ = _
    rw [hs i, if_neg (by omega)]; exact h5 i hi q hq
  · show ((L'.set k (vl L' k, (L'.getD k en0).2.set j (mkT k))).getD k en0).2.getD q ⟨#[]⟩ = _
    rw [hs k, if_pos rfl]
    show ((L'.getD k en0).2.set j (mkT k)).getD q ⟨#[]⟩ = _
    rw [hset q]
    by_cases hq2 : j = q
    · rw [if_pos hq2]
    · rw [if_neg hq2]; exact h6 q (by omega)
/-- All are full; one of them grows beyond itself. -/
theorem Mk.wide (h : Mk w0 L G rows 10 0 W) (hf : Fix L G rows) {l : Nat} (hl : l < 10) {B : Option Addr} {n c : Nat} (hv : vl L l = .slice B n c) :
    ∃ xs, Own W w0.heap.size (.slice B n c) xs ∧ ∀ W', W.grownBy W' (Value.slice B n c).ownBlock → Own W' w0.heap.size (.slice B n c) xs → Mk w0 L G rows 10 0 W' := by
  obtain ⟨L', h1, h2, h3, h4, h5, h6⟩ := h.ex
  have hv' : vl L' l = .slice B n c := (h2 l).1.trans hv
  have ho := h4.own l (by omega)
  refine ⟨(L'.getD l en0).2, by rw [← hv']; exact ho, fun W' hg ho' => ⟨⟨L', h1, h2, h3, h4.grown (k := l) (by omega) (by rw [show (L'.getD l en0).1 = Value.slice B n c from hv']; exact hg) (by rw [show (L'.getD l en0).1 = Value.slice B n c from hv']; exact ho'), h5, h6⟩, h.out.kept hg ?_⟩⟩
  intro e
  have := hf.gl l (by omega) G (by rw [hv]; exact e.symm)
  omega
theorem Mk.read (h : Mk w0 L G rows 10 0 W) {l : Nat} (hl : l < 10) {B : Option Addr} {n c q : Nat} (hv : vl L l = .slice B n c) (hn : nl L l = n) (hq : q < n) : ∃ g, B = some ⟨g, 0, none⟩ ∧ g < W.heap.size ∧ W.cell? ⟨g, q, none⟩ = some (.string (mkT l)) := by
  obtain ⟨L', h1, h2, h3, h4, h5, h6⟩ := h.ex
  have hv' : vl L' l = .slice B n c := (h2 l).1.trans hv
  have ho : Own W w0.heap.size (.slice B n c) (L'.getD l en0).2 := by rw [← hv']; exact h4.own l (by omega)
  obtain ⟨g, rfl, hg1, hg2⟩ := block_of ho (by omega)
  refine ⟨g, rfl, hg2, ?_⟩
  rw [(cell_of ho q hq).1, h5 l hl q (by omega)]
theorem Mk.rest (h : Mk w0 L G rows k j W) {l : Nat} (hl : 10 ≤ l) (hl2 : l < 12) : Own W w0.heap.size (vl L l) (L.getD l en0).2 := by
  obtain ⟨L', h1, h2, h3, h4, h5, h6⟩ := h.ex
  have := h4.own l (by omega)
  rw [h3 l hl] at this
  exact this
end Go.Proofs.YtcenfedmbicofaaDoor.Mth
