/- Slices of whatever elements, as rows of cells: read, and owned. -/
import Derived.Test.YtcenfedmbicofaaDoorMem
import Derived.Laws.AppendOwn
import Derived.Maps.AppendAt
import Derived.OwnWalkIn
import Derived.Deep.AppendLies
set_option linter.unusedVariables false
set_option linter.unusedSimpArgs false
namespace Go.Proofs.YtcenfedmbicofaaDoor.Lst
open Go.RowKit Go.Proofs.YtcenfedmbicofaaDoor.Mem

theorem add_block (a : Addr) (n : Nat) : (a.add n).block = a.block := by unfold Addr.add; split <;> rfl
theorem add_add (a : Addr) (i j : Nat) : (a.add i).add j = a.add (i + j) := by
  unfold Addr.add
  by_cases hi : i = 0 <;> by_cases hj : j = 0 <;> simp [hi, hj, Nat.add_assoc]
theorem add_zero (a : Addr) : a.add 0 = a := by simp [Addr.add]
/-- The slice with this address and n elements holds these cells. -/
def Lst (w : World) (A : Option Addr) (n : Nat) (cs : List Value) : Prop :=
  0 < n → ∃ ad, A = some ad ∧ ad.block < w.heap.size ∧ ∀ i u, cs[i]? = some u → w.cell? (ad.add i) = some u
variable {w wx : World} {A : Option Addr} {n : Nat} {cs : List Value}
theorem Lst.keep (h : Lst w A n cs) (hs : w.heap.size ≤ wx.heap.size) (hk : ∀ p : Addr, p.block < w.heap.size → wx.cell? p = w.cell? p) : Lst wx A n cs := fun hn => by
  obtain ⟨ad, rfl, hb, hc⟩ := h hn
  exact ⟨ad, rfl, by omega, fun i u hi => (hk _ (by rw [add_block]; exact hb)).trans (hc i u hi)⟩
theorem Lst.below (h : Lst w A n cs) (hb : Below w.heap.size w wx) : Lst wx A n cs := h.keep hb.size fun p hp => hb.cell hp
theorem Lst.grown (h : Lst w A n cs) {row : Option Nat} (hg : w.grownBy wx row) (hne : ∀ ad, A = some ad → some ad.block ≠ row) : Lst wx A n cs := fun hn => by
  obtain ⟨ad, rfl, hb, hc⟩ := h hn
  exact ⟨ad, rfl, Nat.lt_of_lt_of_le hb hg.size, fun i u hi => (World.cell?_of_block (hg.block _ (by rw [add_block]; exact hb) (by rw [add_block]; exact hne ad rfl))).trans (hc i u hi)⟩
theorem Lst.drew (h : Lst w A n cs) : Lst w.drew A n cs := h
theorem Lst.drewN (h : Lst w A n cs) (k : Nat) : Lst (w.drewN k) A n cs := h
theorem Lst.alloc (h : Lst w A n cs) (o : Obj) : Lst (w.alloc o) A n cs := h.below ((Below.refl w.heap.size w).alloc (Nat.le_refl _) o)
/-- A value that owns its row, and what can be read of it. -/
theorem own_shape {base E s : Nat} {v : Value} (h : w.ownsRow base E s v n cs) : ∃ B c, v = .slice B n c ∧ n ≤ c ∧ Lst w B n cs ∧ (∀ ad, B = some ad → base ≤ ad.block) := by
  rcases h.2 with ⟨rfl, rfl⟩ | ⟨g, cap, cur, rfl, hb, hh, hnc, hmx, _⟩
  · exact ⟨none, 0, rfl, Nat.le_refl _, fun h => absurd h (by omega), fun _ e => by cases e⟩
  · refine ⟨_, cap, rfl, hnc, fun hp => ⟨_, rfl, ?_, fun i u hi => h.cells (g := g) rfl i u hi⟩, fun ad e => ?_⟩
    · exact (Array.getElem?_eq_some_iff.1 hh).1
    · cases e; exact hb
theorem own_base {base E s : Nat} {v : Value} (h : w.ownsRow base E s v n cs) (k : Nat) (hk : v.ownBlock = some k) : base ≤ k := by
  rcases h.2 with ⟨rfl, _⟩ | ⟨g, cap, cur, rfl, hb, _⟩
  · simp [Value.ownBlock] at hk
  · have : g = k := by simpa [Value.ownBlock] using hk
    omega
theorem own_lt {base E s : Nat} {v : Value} (h : w.ownsRow base E s v n cs) (k : Nat) (hk : v.ownBlock = some k) : k < w.heap.size := by
  rcases h.2 with ⟨rfl, _⟩ | ⟨g, cap, cur, rfl, hb, hh, _⟩
  · simp [Value.ownBlock] at hk
  · have : g = k := by simpa [Value.ownBlock] using hk
    subst this
    exact (Array.getElem?_eq_some_iff.1 hh).1
theorem own_below {base E s : Nat} {v : Value} (h : w.ownsRow base E s v n cs) (hb : Below w.heap.size w wx) : wx.ownsRow base E s v n cs :=
  World.ownsRow.kept h (Grew.of_below hb none) (by cases v.ownBlock <;> simp)
theorem own_down {base base' E s : Nat} {v : Value} (h : w.ownsRow base E s v n cs) (hb : base' ≤ base) : w.ownsRow base' E s v n cs := by
  refine ⟨h.1, ?_⟩
  rcases h.2 with h1 | ⟨g, cap, cur, e, h2, h3⟩
  · exact .inl h1
  · exact .inr ⟨g, cap, cur, e, Nat.le_trans hb h2, h3⟩
/-! ### addresses -/
abbrev av (x : Nat × Nat) : Value := .agg #[.int .i64 (x.1 : Int), .int .i64 (x.2 : Int)]
def ac : List (Nat × Nat) → List Value
  | [] => []
  | x :: l => .int .i64 (x.1 : Int) :: .int .i64 (x.2 : Int) :: ac l
theorem ac_append (l m : List (Nat × Nat)) : ac (l ++ m) = ac l ++ ac m := by
  induction l with
  | nil => rfl
  | cons x l ih => simp [ac, ih]
theorem ac_length (l : List (Nat × Nat)) : (ac l).length = l.length * 2 := by
  induction l with
  | nil => rfl
  | cons x l ih => simp only [ac, List.length_cons, ih]; omega
theorem ac_get (l : List (Nat × Nat)) (i : Nat) (h : i < l.length) : (ac l)[2 * i]? = some (.int .i64 ((l.getD i (0, 0)).1 : Int)) ∧ (ac l)[2 * i + 1]? = some (.int .i64 ((l.getD i (0, 0)).2 : Int)) := by
  induction l generalizing i with
  | nil => simp at h
  | cons x l ih =>
    cases i with
    | zero => exact ⟨rfl, rfl⟩
    | succ i =>
      obtain ⟨h1, h2⟩ := ih i (by simpa using h)
      refine ⟨?_, ?_⟩
      · rw [show 2 * (i + 1) = 2 * i + 1 + 1 by omega]; simpa [ac] using h1
      · rw [show 2 * (i + 1) + 1 = 2 * i + 1 + 1 + 1 by omega]; simpa [ac] using h2
theorem ac_one (l : List (Nat × Nat)) : ∀ u ∈ ac l, u.oneCell' = true := by
  induction l with
  | nil => simp [ac]
  | cons x l ih =>
    intro u hu
    simp only [ac, List.mem_cons] at hu
    rcases hu with rfl | rfl | hu
    · rfl
    · rfl
    · exact ih u hu
/-- The slice holds these addresses. -/
def Adr (w : World) (A : Option Addr) (n : Nat) (l : List (Nat × Nat)) : Prop := l.length = n ∧ Lst w A n (ac l)
theorem Adr.below {l : List (Nat × Nat)} (h : Adr w A n l) (hb : Below w.heap.size w wx) : Adr wx A n l := ⟨h.1, h.2.below hb⟩
theorem Adr.at_ {l : List (Nat × Nat)} (h : Adr w A n l) (i : Nat) (hi : i < n) : ∃ ad, A = some ad ∧ ad.block < w.heap.size ∧ w.cell? (ad.add (i * 2)) = some (.int .i64 ((l.getD i (0, 0)).1 : Int)) ∧ w.cell? (ad.add (i * 2 + 1)) = some (.int .i64 ((l.getD i (0, 0)).2 : Int)) := by
  obtain ⟨ad, e, hb, hc⟩ := h.2 (by omega)
  obtain ⟨h1, h2⟩ := ac_get l i (by rw [h.1]; exact hi)
  exact ⟨ad, e, hb, hc _ _ (by rw [Nat.mul_comm]; exact h1), hc _ _ (by rw [Nat.mul_comm]; exact h2)⟩
/-- The place of an element, by a name of its own. -/
theorem Adr.at2 {l : List (Nat × Nat)} (h : Adr w A n l) (i : Nat) (hi : i < n) : ∃ ad X, A = some ad ∧ ad.block < w.heap.size ∧ ad.add (i * 2) = X ∧ X.block = ad.block ∧ w.cell? X = some (.int .i64 ((l.getD i (0, 0)).1 : Int)) ∧ w.cell? ⟨X.block, X.off + 1, none⟩ = some (.int .i64 ((l.getD i (0, 0)).2 : Int)) := by
  obtain ⟨ad, e, hb, h1, h2⟩ := h.at_ i hi
  exact ⟨ad, _, e, hb, rfl, add_block _ _, h1, by rw [← add_add] at h2; exact h2⟩
abbrev OwnA (w : World) (base : Nat) (v : Value) (l : List (Nat × Nat)) : Prop := w.ownsRow base 40 2 v l.length (ac l)
theorem OwnA.shape {base : Nat} {v : Value} {l : List (Nat × Nat)} (h : OwnA w base v l) : ∃ B c, v = .slice B l.length c ∧ l.length ≤ c ∧ Adr w B l.length l ∧ (∀ ad, B = some ad → base ≤ ad.block) := by
  obtain ⟨B, c, e, h1, h2, h3⟩ := own_shape h
  exact ⟨B, c, e, h1, ⟨rfl, h2⟩, h3⟩
theorem infoAddr : (Tryd.prog.info? 40).map (fun i => (i.zero, i.size, i.bytes)) = some (some (.agg #[.int .i64 0, .int .i64 0]), 2, 16) := by kernel_rfl
section
variable {ops : Array Oper} {rest : List Oper} {o : Oper} {a : Act} {W : World} {Q : Exit → Act → World → Prop}
/-- append(l, x) of one address: the goal's world is the one that has laid the box for x. -/
theorem wpList_appA {w0 : World} (base : Nat) (hgd : o.guard = none) (s x : Operand) (ho : o.op = .call { callee := .builtin .append, args := #[s, x], argTypes := #[57, 57] })
    (v : Value) (l : List (Nat × Nat)) (y : Nat × Nat) {n1 n2 : Int} (e1 : n1 = (y.1 : Int)) (e2 : n2 = (y.2 : Int)) (hs : a.eval s = v) (hx : a.eval x = .slice (some ⟨W.heap.size, 0, none⟩) 1 1)
    (HO : OwnA W base v l) (HB : Below base w0 W) (hbase : base ≤ W.heap.size) (hl : l.length + 1 ≤ 8796093022208)
    (h : ∀ v1 w1, OwnA w1 base v1 (l ++ [y]) → Below base w0 w1 → W.grownBy w1 v.ownBlock → (v1.ownBlock = v.ownBlock ∨ ∃ b, v1.ownBlock = some b ∧ W.heap.size ≤ b) → v1 ≠ .slice none 0 0 → wpList Tryd.prog ops Q rest (a.put o.dst v1) w1) :
    wpList Tryd.prog ops Q (o :: rest) a (W.alloc (.cells #[.int .i64 n1, .int .i64 n2] 40)) := by
  subst e1 e2
  obtain ⟨i, hi, hz, hsz, hby⟩ := info_parts infoAddr
  refine wpList_append_own_at (W.alloc (.cells #[.int .i64 (y.1 : Int), .int .i64 (y.2 : Int)] 40)) hgd s x 57 ho base 40 i _ 2 16 Tryd.underlying57 hi hz hsz hby rfl (by omega) v l.length (ac l) hs (HO.alloc _) ⟨W.heap.size, 0, none⟩ 1 1 [.int .i64 (y.1 : Int), .int .i64 (y.2 : Int)] hx rfl
    (World.news_of_block (cs := #[.int .i64 (y.1 : Int), .int .i64 (y.2 : Int)]) (t := 40) (fr := (0, 0)) (heap_alloc_new W _)) (by simp [Value.oneCell']) (by simp only [maxLen]; omega) (by omega) (by simp; omega) ?_
  intro v1 w1 hown hg hn hat
  refine h v1 w1 (by unfold OwnA; rw [List.length_append, ac_append]; exact hown) ((HB.alloc hbase _).grown hg (by simp; omega) (own_base HO)) (World.grownBy.trans (World.grownBy_alloc W _ _) hg) ?_ (fun e => by have := (hn.1 e).2; omega)
  rcases hat with hat | hat
  · exact .inl hat
  · exact .inr ⟨_, hat, by simp⟩
end
end Go.Proofs.YtcenfedmbicofaaDoor.Lst
