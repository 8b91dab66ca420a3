/- What stays as it was while some rows are written; rows written over; rows of marks. -/
import Derived.Test.YtcenfedmbicofaaDoorLst
import Derived.Laws.OwnMore
set_option linter.unusedVariables false
set_option linter.unusedSimpArgs false
namespace Go.Proofs.YtcenfedmbicofaaDoor.Lst
open Go.RowKit Go.Proofs.YtcenfedmbicofaaDoor.Mem

/-- Behind these steps whatever lay in w lies as it lay, but for the blocks of S. -/
structure Kp (S : Nat → Prop) (w wx : World) : Prop where
  os : wx.os = w.os
  tape : wx.tape = w.tape
  output : wx.output = w.output
  size : w.heap.size ≤ wx.heap.size
  block : ∀ k, k < w.heap.size → ¬ S k → wx.heap[k]? = w.heap[k]?
variable {S : Nat → Prop} {w wx w2 : World} {A : Option Addr} {n : Nat} {cs : List Value}
theorem Kp.refl (S : Nat → Prop) (w : World) : Kp S w w := ⟨rfl, rfl, rfl, Nat.le_refl _, fun _ _ _ => rfl⟩
theorem Kp.mono {T : Nat → Prop} (h : Kp S w wx) (hs : ∀ k, S k → T k) : Kp T w wx := ⟨h.os, h.tape, h.output, h.size, fun k hk hn => h.block k hk (fun e => hn (hs k e))⟩
theorem Kp.below (h : Kp S w wx) (b : Below wx.heap.size wx w2) : Kp S w w2 :=
  ⟨b.os.trans h.os, b.tape.trans h.tape, b.output.trans h.output, Nat.le_trans h.size b.size, fun k hk hn => (b.block k (Nat.lt_of_lt_of_le hk h.size)).trans (h.block k hk hn)⟩
theorem Kp.of_below (b : Below w.heap.size w wx) : Kp S w wx := (Kp.refl S w).below b
theorem Kp.grown {row : Option Nat} (h : Kp S w wx) (g : wx.grownBy w2 row) (hr : ∀ k, row = some k → k < w.heap.size → S k) : Kp S w w2 :=
  ⟨g.os.trans h.os, g.tape.trans h.tape, g.output.trans h.output, Nat.le_trans h.size g.size, fun k hk hn => (g.block k (Nat.lt_of_lt_of_le hk h.size) (fun e => hn (hr k e.symm hk))).trans (h.block k hk hn)⟩
theorem Kp.trans (h : Kp S w wx) (g : Kp S wx w2) : Kp S w w2 :=
  ⟨g.os.trans h.os, g.tape.trans h.tape, g.output.trans h.output, Nat.le_trans h.size g.size, fun k hk hn => (g.block k (Nat.lt_of_lt_of_le hk h.size) hn).trans (h.block k hk hn)⟩
theorem Kp.toBelow {B : Nat} {w0 : World} (h : Kp S w wx) (hb : Below B w0 w) (hB : B ≤ w.heap.size) (hS : ∀ k, S k → B ≤ k) : Below B w0 wx :=
  ⟨h.os.trans hb.os, h.tape.trans hb.tape, h.output.trans hb.output, Nat.le_trans hb.size h.size, fun k hk => (h.block k (Nat.lt_of_lt_of_le hk hB) (fun e => by have := hS k e; omega)).trans (hb.block k hk)⟩
theorem Lst.kp (h : Lst w A n cs) (k : Kp S w wx) (hne : ∀ ad, A = some ad → ¬ S ad.block) : Lst wx A n cs := fun hn => by
  obtain ⟨ad, rfl, hb, hc⟩ := h hn
  exact ⟨ad, rfl, Nat.lt_of_lt_of_le hb k.size, fun i u hi => (World.cell?_of_block (k.block _ (by rw [add_block]; exact hb) (by rw [add_block]; exact hne ad rfl))).trans (hc i u hi)⟩
theorem Adr.kp {l : List (Nat × Nat)} (h : Adr w A n l) (k : Kp S w wx) (hne : ∀ ad, A = some ad → ¬ S ad.block) : Adr wx A n l := ⟨h.1, h.2.kp k hne⟩
theorem own_kp {base E s : Nat} {v : Value} (h : w.ownsRow base E s v n cs) (k : Kp S w wx) (hne : ∀ g, v.ownBlock = some g → ¬ S g) : wx.ownsRow base E s v n cs := by
  refine ⟨h.1, ?_⟩
  rcases h.2 with h1 | ⟨g, cap, cur, rfl, h2, h3, h4⟩
  · exact .inl h1
  · refine .inr ⟨g, cap, cur, rfl, h2, (k.block g ?_ (hne g (by simp [Value.ownBlock]))).trans h3, h4⟩
    exact (Array.getElem?_eq_some_iff.1 h3).1

/-! ### marks -/
def mks (u : List Value) : Nat → List Value
  | 0 => []
  | n + 1 => mks u n ++ u
theorem mks_length (u : List Value) (n : Nat) : (mks u n).length = n * u.length := by
  induction n with
  | zero => simp [mks]
  | succ n ih => simp only [mks, List.length_append, ih, Nat.add_mul, Nat.one_mul]
theorem mks_get (u : List Value) (n i j : Nat) (hi : i < n) (hj : j < u.length) : (mks u n)[i * u.length + j]? = u[j]? := by
  induction n with
  | zero => omega
  | succ n ih =>
    simp only [mks]
    by_cases h : i < n
    · rw [List.getElem?_append_left]
      · exact ih h
      · rw [mks_length]
        have : (i + 1) * u.length ≤ n * u.length := Nat.mul_le_mul_right _ (by omega)
        rw [Nat.add_mul, Nat.one_mul] at this
        omega
    · obtain rfl : i = n := by omega
      rw [List.getElem?_append_right (by rw [mks_length]; omega), mks_length, Nat.add_sub_cancel_left]
theorem mks_one (u : List Value) (n : Nat) (h : ∀ x ∈ u, x.oneCell' = true) : ∀ x ∈ mks u n, x.oneCell' = true := by
  induction n with
  | zero => simp [mks]
  | succ n ih =>
    intro x hx
    rcases List.mem_append.1 hx with h1 | h1
    · exact ih x h1
    · exact h x h1
theorem set_over {A B : List Value} {x u : Value} {n : Nat} (h : A.length = n) : (A ++ x :: B).set n u = A ++ u :: B := by
  subst h
  rw [List.set_append_right _ _ (Nat.le_refl _), Nat.sub_self]; rfl
/-- One element of a row is written over, from left to right: elements of two cells. -/
theorem over2 {base E n cap g k : Nat} {a b : Value} (h : w.ownsRow base E 2 (.slice (some ⟨g, 0, none⟩) n cap) n (mks [a, b] k ++ cs.drop (k * 2))) (hl : cs.length = n * 2) (hk : k < n) :
    ((w.setCell ⟨g, k * 2, none⟩ a).setCell ⟨g, k * 2 + 1, none⟩ b).ownsRow base E 2 (.slice (some ⟨g, 0, none⟩) n cap) n (mks [a, b] (k + 1) ++ cs.drop ((k + 1) * 2)) ∧
      w.grownBy ((w.setCell ⟨g, k * 2, none⟩ a).setCell ⟨g, k * 2 + 1, none⟩ b) (some g) := by
  obtain ⟨h1, g1⟩ := h.stored (k * 2) a
  obtain ⟨h2, g2⟩ := h1.stored (k * 2 + 1) b
  refine ⟨?_, g1.trans g2⟩
  have hm := mks_length [a, b] k
  simp only [List.length_cons, List.length_nil] at hm
  obtain ⟨x, y, hxy⟩ : ∃ x y, cs.drop (k * 2) = x :: y :: cs.drop ((k + 1) * 2) := by
    have e1 := List.drop_eq_getElem_cons (l := cs) (i := k * 2) (by omega)
    have e2 := List.drop_eq_getElem_cons (l := cs) (i := k * 2 + 1) (by omega)
    rw [show k * 2 + 1 + 1 = (k + 1) * 2 by omega] at e2
    rw [e2] at e1
    exact ⟨_, _, e1⟩
  rw [hxy, set_over hm] at h2
  have e : mks [a, b] k ++ a :: y :: cs.drop ((k + 1) * 2) = (mks [a, b] k ++ [a]) ++ y :: cs.drop ((k + 1) * 2) := by simp
  rw [e, set_over (by rw [List.length_append, hm]; rfl)] at h2
  have e2 : mks [a, b] (k + 1) ++ cs.drop ((k + 1) * 2) = (mks [a, b] k ++ [a]) ++ b :: cs.drop ((k + 1) * 2) := by simp [mks]
  rw [e2]
  exact h2
end Go.Proofs.YtcenfedmbicofaaDoor.Lst
