/- A slice of texts that is read; how it comes in. -/
import Derived.Test.YtcenfedmbicofaaDoorMem
import Derived.SliceStrings
import Derived.SizedLaws
import Derived.ChangeSlices
set_option linter.unusedVariables false
set_option linter.unusedSimpArgs false
namespace Go.Proofs.YtcenfedmbicofaaDoor.Strs
open Go.RowKit Go.ChangeShapes Go.WideShapes Go.Proofs.YtcenfedmbicofaaDoor.Mem

theorem add_block (a : Addr) (n : Nat) : (a.add n).block = a.block := by unfold Addr.add; split <;> rfl
theorem add_add (a : Addr) (i j : Nat) : (a.add i).add j = a.add (i + j) := by
  unfold Addr.add
  by_cases hi : i = 0 <;> by_cases hj : j = 0 <;> simp [hi, hj, Nat.add_assoc]
theorem add_zero (a : Addr) : a.add 0 = a := by simp [Addr.add]
/-- The slice with this address and length holds these texts. -/
def Strs (w : World) (A : Option Addr) (n : Nat) (ss : List ByteArray) : Prop :=
  ss.length = n ∧ (0 < n → ∃ ad, A = some ad ∧ ad.block < w.heap.size ∧ ∀ i, i < n → w.cell? (ad.add i) = some (.string (ss.getD i ⟨#[]⟩)))
variable {w wx : World} {A : Option Addr} {n : Nat} {ss : List ByteArray}
theorem Strs.len (h : Strs w A n ss) : ss.length = n := h.1
theorem Strs.at_ (h : Strs w A n ss) (i : Nat) (hi : i < n) : ∃ ad, A = some ad ∧ ad.block < w.heap.size ∧ w.cell? (ad.add i) = some (.string (ss.getD i ⟨#[]⟩)) := by
  obtain ⟨ad, e, hb, hc⟩ := h.2 (by omega)
  exact ⟨ad, e, hb, hc i hi⟩
theorem Strs.nil (w : World) (A : Option Addr) : Strs w A 0 [] := ⟨rfl, fun h => absurd h (by omega)⟩
theorem Strs.keep (h : Strs w A n ss) (hs : w.heap.size ≤ wx.heap.size) (hk : ∀ p : Addr, (∀ ad, A = some ad → p.block = ad.block) → p.block < w.heap.size → wx.cell? p = w.cell? p) : Strs wx A n ss :=
  ⟨h.1, fun hn => by
    obtain ⟨ad, rfl, hb, hc⟩ := h.2 hn
    exact ⟨ad, rfl, by omega, fun i hi => (hk _ (fun a e => by injection e with e; rw [← e, add_block]) (by rw [add_block]; exact hb)).trans (hc i hi)⟩⟩
theorem Strs.below (h : Strs w A n ss) (hb : Below w.heap.size w wx) : Strs wx A n ss := h.keep hb.size fun p _ hp => hb.cell hp
/-- Another row has been written. -/
theorem Strs.grown (h : Strs w A n ss) {row : Option Nat} (hg : Grew w wx row) (hne : ∀ ad, A = some ad → some ad.block ≠ row) : Strs wx A n ss := by
  refine ⟨h.1, fun hn => ?_⟩
  obtain ⟨ad, rfl, hb, hc⟩ := h.2 hn
  exact ⟨ad, rfl, Nat.lt_of_lt_of_le hb hg.size, fun i hi => (hg.cell _ (by rw [add_block]; exact hb) (by rw [add_block]; exact hne ad rfl)).trans (hc i hi)⟩
theorem Strs.drewN (h : Strs w A n ss) (k : Nat) : Strs (w.drewN k) A n ss := h
theorem Strs.drew (h : Strs w A n ss) : Strs w.drew A n ss := h
theorem Strs.alloc (h : Strs w A n ss) (o : Obj) : Strs (w.alloc o) A n ss := h.below ((Below.refl w.heap.size w).alloc (Nat.le_refl _) o)
theorem Strs.take (h : Strs w A n ss) (k : Nat) (hk : k ≤ n) : Strs w A k (ss.take k) := by
  refine ⟨by rw [List.length_take, h.1]; omega, fun hp => ?_⟩
  obtain ⟨ad, e, hb, hc⟩ := h.2 (by omega)
  refine ⟨ad, e, hb, fun i hi => ?_⟩
  rw [hc i (by omega), List.getD_eq_getElem?_getD, List.getD_eq_getElem?_getD, List.getElem?_take_of_lt hi]
theorem Strs.drop (h : Strs w A n ss) (k : Nat) (hk : k ≤ n) (c : Nat) (hc : n ≤ c) : Strs w (if c = k then A else A.map (·.add k)) (n - k) (ss.drop k) := by
  refine ⟨by rw [List.length_drop, h.1], fun hp => ?_⟩
  obtain ⟨ad, rfl, hb, hcell⟩ := h.2 (by omega)
  rw [if_neg (by omega)]
  refine ⟨ad.add k, rfl, by rw [add_block]; exact hb, fun i hi => ?_⟩
  rw [add_add, hcell (k + i) (by omega), List.getD_eq_getElem?_getD, List.getD_eq_getElem?_getD, List.getElem?_drop]
/-- What a statement's slice of texts is, when the call begins. -/
def Came (w : World) (A : Option Addr) (n c : Nat) (ss : List ByteArray) : Prop := Strs w A n ss ∧ n ≤ c ∧ c * 16 ≤ 140737488351232 ∧ ∀ s ∈ ss, s.size ≤ 140737488351232
theorem came_of {H : Type} {enc : TypeId × Value → H} {P : Program} {W : World} {held : Bool} {t e : TypeId} {a : Option Addr} {len cap : Nat} {d : DataW H} {ps : List MemPlace} {ts : List TypeId} {ds : List (DataW H)} {j : Nat}
    (hsz : (DataW.weightsEach P ts ds).all (· ≤ reachBytes) = true) (ht : ts[j]? = some t) (hd : ds[j]? = some d) (hu : P.underlying t = some (.slice e)) (he : P.underlying e = some .string) (hc : P.cellsOf e = 1) (hB : P.bytesOf e = 16)
    (h : DataW.Trod enc P W 0 (fun _ => true) held t (.slice a len cap) d ps) : ∃ ss, Came W a len cap ss := by
  obtain ⟨fuel, hf⟩ := h
  rcases open_strings hu he hc hf with ⟨hcs, _⟩ | ⟨x, l, c, zs, hcs, _, hl, hm, hz, hx, hcell, _⟩
  · simp [Value.cells] at hcs
    obtain ⟨rfl, rfl, rfl⟩ := hcs
    exact ⟨[], Strs.nil _ _, Nat.le_refl _, by decide, fun s hs => by cases hs⟩
  · simp [Value.cells] at hcs
    obtain ⟨rfl, rfl, rfl⟩ := hcs
    obtain ⟨hx, _⟩ := Prod.mk.inj hx
    subst hx
    simp only [if_true] at hz
    have z := sized_slice hsz ht hd hu
    rw [hB] at z
    have h1 : (strs (H := H) (zs.take len)).length + (strs (H := H) (zs.drop len)).length = cap := by
      simp [strs]; omega
    rw [h1] at z
    have hw := fun n hn => List.all_eq_true.1 hsz n (DataW.weights_mem_each ht hd n hn)
    have hall : ∀ (l : List ByteArray) (s : ByteArray), s ∈ l → s.size ∈ DataW.weightsAll P e (strs (H := H) l) := by
      intro l
      induction l with
      | nil => intro s hs; cases hs
      | cons x l ih =>
        intro s hs
        simp only [strs, List.map_cons, DataW.weightsAll, DataW.weights, List.mem_append, List.mem_singleton]
        rcases List.mem_cons.1 hs with rfl | hs
        · left; rw [Array.length_toList]; rfl
        · right; exact ih s hs
    refine ⟨zs.take len, ⟨by rw [List.length_take, hz]; omega, fun hp => ⟨x, rfl, ?_, fun i hi => ?_⟩⟩, hl, z, fun s hs => ?_⟩
    · have := World.block_lt_of_cell? W _ (hcell 0 (by omega))
      rwa [add_block] at this
    · rw [hcell i (by omega), List.getD_eq_getElem?_getD, List.getD_eq_getElem?_getD, List.getElem?_take_of_lt hi]
      rfl
    · have := hw s.size (by
        simp only [DataW.weights, hu, List.mem_cons, List.mem_append]
        exact .inr (.inl (hall _ s hs)))
      show s.size ≤ reachBytes
      exact of_decide_eq_true this
end Go.Proofs.YtcenfedmbicofaaDoor.Strs
