/- ShaHistory: hashes and copies in memory, each behind a pointer in a list that a call owns. -/
import Derived.Test.YtkhcinnpfpkhnaaDoorShaLaws2
import Derived.Test.YtkhcinnpfpkhnaaDoorArr
import Derived.Laws.AppendOwn
import Derived.Maps.AppendAt
import Derived.OwnWalkIn
import Derived.Deep.AppendLies
import Derived.OneCell
set_option linter.unusedVariables false
set_option linter.unusedSimpArgs false
namespace Go.Proofs.YtkhcinnpfpkhnaaDoor.Hist
open Go.RowKit Go.Proofs.YtkhcinnpfpkhnaaDoor.Base Go.Proofs.YtkhcinnpfpkhnaaDoor.Mem Go.Proofs.YtkhcinnpfpkhnaaDoor.ShaDig Go.Proofs.YtkhcinnpfpkhnaaDoor.ShaLaws


abbrev ptr (b : Nat) : Value := .pointer (some ⟨b, 0, none⟩)
/-- The document's Hash in block r holds this text. -/
def RT (w : World) (r : Nat) (x : ByteArray) : Prop := Row w r #[.string x] 69
theorem ht_row {w : World} {b : Nat} {x : ByteArray} (h : HT w b x) : ∃ cs, Row w b cs 67 := by
  obtain ⟨r, h1, _⟩ := h.1
  exact ⟨_, h1⟩
theorem rt_row {w : World} {b : Nat} {x : ByteArray} (h : RT w b x) : ∃ cs, Row w b cs 69 := ⟨_, h⟩
theorem rt_kept {w wx : World} {b : Nat} {x : ByteArray} (h : RT w b x) {row : Option Nat} (hg : Grew w wx row) (hne : some b ≠ row) : RT wx b x := Row.kept h hg hne
theorem ne_of_type {w : World} {a b : Nat} {cs cs' : Array Value} {t t' : TypeId} (h : Row w a cs t) (h' : Row w b cs' t') (hn : t ≠ t') : a ≠ b := fun e => by
  subst e
  unfold Row at h h'
  rw [h] at h'
  simp only [Option.some.injEq, Obj.cells.injEq] at h'
  exact hn h'.2.1
/-- A kind of box. -/
structure Kind (E T : TypeId) (H : World → Nat → ByteArray → Prop) : Prop where
  row : ∀ w b x, H w b x → ∃ cs, Row w b cs T
  kept : ∀ w wx b x row, H w b x → Grew w wx row → some b ≠ row → H wx b x
  ne : E ≠ T
theorem kindP : Kind 33 67 HT := ⟨fun w b x h => ht_row h, fun w wx b x row h g n => h.kept g n, by decide⟩
theorem kindR : Kind 35 69 RT := ⟨fun w b x h => rt_row h, fun w wx b x row h g n => rt_kept h g n, by decide⟩
/-- A list of pointers to boxes, no two to one. -/
structure Pf (E T : TypeId) (H : World → Nat → ByteArray → Prop) (w0 : World) (v : Value) (bs : List Nat) (xs : List ByteArray) (W : World) : Prop where
  own : W.ownsRow w0.heap.size E 1 v bs.length (bs.map ptr)
  len : xs.length = bs.length
  here : ∀ i, i < bs.length → w0.heap.size ≤ bs.getD i 0 ∧ H W (bs.getD i 0) (xs.getD i ⟨#[]⟩)
  nd : ∀ i j, i < bs.length → j < bs.length → i ≠ j → bs.getD i 0 ≠ bs.getD j 0
section
variable {E T : TypeId} {H : World → Nat → ByteArray → Prop} {w0 W W' W2 : World} {v : Value} {bs : List Nat} {xs : List ByteArray}
theorem own_row {base g n s : Nat} {v : Value} {cs : List Value} (h : W.ownsRow base E s v n cs) (e : v.ownBlock = some g) : ∃ c, Row W g c E := by
  rcases h.2 with ⟨rfl, _⟩ | ⟨g', cap, cur, rfl, hb, hh, _⟩
  · simp [Value.ownBlock] at e
  · simp only [Value.ownBlock, Option.some.injEq] at e
    subst e
    exact ⟨cur, hh⟩
/-- A block of another type has been written. -/
theorem Pf.kept (K : Kind E T H) (h : Pf E T H w0 v bs xs W) {row : Option Nat} (g : Grew W W' row) (hr : ∀ q, row = some q → ∃ cs t, Row W q cs t ∧ t ≠ E ∧ t ≠ T) : Pf E T H w0 v bs xs W' := by
  refine ⟨World.ownsRow.kept h.own g ?_, h.len, fun i hi => ⟨(h.here i hi).1, K.kept _ _ _ _ _ (h.here i hi).2 g (fun e => ?_)⟩, h.nd⟩
  · cases hq : v.ownBlock with
    | none => exact .inl rfl
    | some b =>
      refine .inr fun e => ?_
      obtain ⟨cs, t, h1, h2, _⟩ := hr b e.symm
      obtain ⟨c, h3⟩ := own_row h.own hq
      exact ne_of_type h1 h3 h2 rfl
  · obtain ⟨cs, t, h1, _, h2⟩ := hr _ e.symm
    obtain ⟨c, h3⟩ := K.row _ _ _ (h.here i hi).2
    exact ne_of_type h1 h3 h2 rfl
theorem Pf.call (K : Kind E T H) (h : Pf E T H w0 v bs xs W) (b : Below W.heap.size W W') : Pf E T H w0 v bs xs W' := h.kept K (Grew.of_below b none) (fun q e => by cases e)
theorem set_getD (l : List ByteArray) (i j : Nat) (x : ByteArray) : (l.set i x).getD j ⟨#[]⟩ = if i = j ∧ j < l.length then x else l.getD j ⟨#[]⟩ := by
  rw [List.getD_eq_getElem?_getD, List.getElem?_set]
  by_cases hij : i = j
  · subst hij
    by_cases hl : i < l.length
    · simp [hl]
    · simp [hl, List.getD_eq_getElem?_getD]
  · simp [hij, List.getD_eq_getElem?_getD]
/-- One of the boxes has been written. -/
theorem Pf.wrote (K : Kind E T H) (h : Pf E T H w0 v bs xs W) {i : Nat} (hi : i < bs.length) (g : Grew W W' (some (bs.getD i 0))) {x : ByteArray} (hx : H W' (bs.getD i 0) x) : Pf E T H w0 v bs (xs.set i x) W' := by
  obtain ⟨ci, ri⟩ := K.row _ _ _ (h.here i hi).2
  refine ⟨World.ownsRow.kept h.own g ?_, by rw [List.length_set]; exact h.len, fun j hj => ⟨(h.here j hj).1, ?_⟩, h.nd⟩
  · cases hq : v.ownBlock with
    | none => exact .inl rfl
    | some b =>
      refine .inr fun e => ?_
      injection e with e
      subst e
      obtain ⟨c, h3⟩ := own_row h.own hq
      exact ne_of_type h3 ri K.ne rfl
  · rw [set_getD]
    by_cases hij : i = j
    · subst hij
      rw [if_pos ⟨rfl, by rw [h.len]; exact hi⟩]; exact hx
    · rw [if_neg (fun e => hij e.1)]
      exact K.kept _ _ _ _ _ (h.here j hj).2 g (fun e => by injection e with e; exact h.nd j i hj hi (fun e => hij e.symm) e)
theorem getD_snoc {α : Type} (l : List α) (x d : α) (i : Nat) : (l ++ [x]).getD i d = if i < l.length then l.getD i d else if i = l.length then x else d := by
  rw [List.getD_eq_getElem?_getD]
  by_cases h : i < l.length
  · rw [if_pos h, List.getElem?_append_left h, List.getD_eq_getElem?_getD]
  · rw [if_neg h, List.getElem?_append_right (by omega)]
    by_cases h2 : i = l.length
    · subst h2; rw [if_pos rfl, Nat.sub_self]; rfl
    · rw [if_neg h2, List.getElem?_eq_none (by simp; omega)]; rfl
/-- One more box, made just now; the list has grown by its pointer. -/
theorem Pf.add (K : Kind E T H) (h : Pf E T H w0 v bs xs W) (b1 : Below W.heap.size W W') {q : Nat} {x : ByteArray} (hq : W.heap.size ≤ q) (hw : w0.heap.size ≤ W.heap.size) (hx : H W' q x) {v2 : Value}
    (ho : W2.ownsRow w0.heap.size E 1 v2 (bs.length + 1) (bs.map ptr ++ [ptr q])) (hg : W'.grownBy W2 v.ownBlock) : Pf E T H w0 v2 (bs ++ [q]) (xs ++ [x]) W2 := by
  have hP := h.call K b1
  have hoff : ∀ p y, H W' p y → some p ≠ v.ownBlock := fun p y hy e => by
    obtain ⟨c, r⟩ := K.row _ _ _ hy
    obtain ⟨c2, r2⟩ := own_row hP.own e.symm
    exact ne_of_type r2 r K.ne rfl
  have hlt : ∀ i, i < bs.length → bs.getD i 0 < W.heap.size := fun i hi => by
    obtain ⟨c, r⟩ := K.row _ _ _ (h.here i hi).2
    exact r.lt
  refine ⟨by rw [List.length_append, List.map_append]; exact ho, by rw [List.length_append, List.length_append, h.len]; rfl, fun i hi => ?_, fun i j hi hj hij => ?_⟩
  · rw [List.length_append, List.length_singleton] at hi
    rw [getD_snoc, getD_snoc]
    by_cases h1 : i < bs.length
    · rw [if_pos h1, if_pos (by rw [h.len]; exact h1)]
      exact ⟨(h.here i h1).1, K.kept _ _ _ _ _ (hP.here i h1).2 hg (hoff _ _ (hP.here i h1).2)⟩
    · obtain rfl : i = bs.length := by omega
      rw [if_neg (by omega), if_pos rfl, if_neg (by rw [h.len]; omega), if_pos h.len.symm]
      exact ⟨by omega, K.kept _ _ _ _ _ hx hg (hoff _ _ hx)⟩
  · rw [List.length_append, List.length_singleton] at hi hj
    rw [getD_snoc, getD_snoc]
    by_cases h1 : i < bs.length
    · rw [if_pos h1]
      by_cases h2 : j < bs.length
      · rw [if_pos h2]; exact h.nd i j h1 h2 hij
      · rw [if_neg h2, if_pos (by omega)]
        have := hlt i h1; omega
    · rw [if_neg h1, if_pos (by omega), if_pos (by omega)]
      have := hlt j (by omega); omega
end
end Go.Proofs.YtkhcinnpfpkhnaaDoor.Hist
