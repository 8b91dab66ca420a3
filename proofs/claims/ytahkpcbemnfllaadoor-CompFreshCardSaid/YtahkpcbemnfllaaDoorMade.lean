/- Lists of Made nodes; rows that are cut; appends of one element at a step of whatever region. -/
import Derived.Test.YtahkpcbemnfllaaDoorComp5
import Derived.Deep.AppendLies
set_option linter.unusedVariables false
set_option linter.unusedSimpArgs false
namespace Go.Proofs.YtahkpcbemnfllaaDoor.Comp
open Go.RowKit Go.Proofs.YtahkpcbemnfllaaDoor.Base Go.Proofs.YtahkpcbemnfllaaDoor.Mem Go.Proofs.YtahkpcbemnfllaaDoor.Strs Go.Proofs.YtahkpcbemnfllaaDoor.ShaDig Go.Proofs.YtahkpcbemnfllaaDoor.TreeHash Go.Proofs.YtahkpcbemnfllaaDoor.Cov
open Go.Proofs.YtahkpcbemnfllaaDoor.Lst (OwnA Adr OwnA.shape Kp own_below Lst ac ac_append ac_length infoAddr own_lt own_base own_shape)

/-- A node: level, index, hash. -/
abbrev Md := (Nat × Nat) × ByteArray
abbrev mdv (x : Md) : Value := .agg #[.int .i64 (x.1.1 : Int), .int .i64 (x.1.2 : Int), .string x.2]
def mdc : List Md → List Value
  | [] => []
  | x :: l => .int .i64 (x.1.1 : Int) :: .int .i64 (x.1.2 : Int) :: .string x.2 :: mdc l
theorem mdc_append (l m : List Md) : mdc (l ++ m) = mdc l ++ mdc m := by
  induction l with
  | nil => rfl
  | cons x l ih => simp [mdc, ih]
theorem mdc_length (l : List Md) : (mdc l).length = l.length * 3 := by
  induction l with
  | nil => rfl
  | cons x l ih => simp only [mdc, List.length_cons, ih]; omega
abbrev md0 : Md := ((0, 0), ⟨#[]⟩)
theorem mdc_get (l : List Md) (i : Nat) (h : i < l.length) : (mdc l)[i * 3]? = some (.int .i64 ((l.getD i md0).1.1 : Int)) ∧ (mdc l)[i * 3 + 1]? = some (.int .i64 ((l.getD i md0).1.2 : Int)) ∧ (mdc l)[i * 3 + 2]? = some (.string (l.getD i md0).2) := by
  induction l generalizing i with
  | nil => simp at h
  | cons x l ih =>
    cases i with
    | zero => exact ⟨rfl, rfl, rfl⟩
    | succ i =>
      obtain ⟨h1, h2, h3⟩ := ih i (by simpa using h)
      refine ⟨?_, ?_, ?_⟩
      · rw [show (i + 1) * 3 = i * 3 + 1 + 1 + 1 by omega]; simpa [mdc] using h1
      · rw [show (i + 1) * 3 + 1 = i * 3 + 1 + 1 + 1 + 1 by omega]; simpa [mdc] using h2
      · rw [show (i + 1) * 3 + 2 = i * 3 + 2 + 1 + 1 + 1 by omega]; simpa [mdc] using h3
theorem mdc_one (l : List Md) : ∀ u ∈ mdc l, u.oneCell' = true := by
  induction l with
  | nil => simp [mdc]
  | cons x l ih =>
    intro u hu
    simp only [mdc, List.mem_cons] at hu
    rcases hu with rfl | rfl | rfl | hu
    · rfl
    · rfl
    · rfl
    · exact ih u hu
abbrev OwnM (w : World) (base : Nat) (v : Value) (l : List Md) : Prop := w.ownsRow base 54 3 v l.length (mdc l)
/-- The slice holds these nodes. -/
def Mds (w : World) (A : Option Addr) (n : Nat) (l : List Md) : Prop := l.length = n ∧ Lst w A n (mdc l)
theorem Mds.below {w wx : World} {A : Option Addr} {n : Nat} {l : List Md} (h : Mds w A n l) (hb : Below w.heap.size w wx) : Mds wx A n l := ⟨h.1, h.2.below hb⟩
theorem own_mds {w : World} {base : Nat} {v : Value} {l : List Md} (h : OwnM w base v l) : ∃ B c, v = .slice B l.length c ∧ l.length ≤ c ∧ Mds w B l.length l ∧ ((∃ g, B = some ⟨g, 0, none⟩ ∧ base ≤ g ∧ g < w.heap.size) ∨ l = []) := by
  obtain ⟨B, c, e, h1, h2, h3⟩ := own_shape h
  refine ⟨B, c, e, h1, ⟨rfl, h2⟩, ?_⟩
  rcases h.2 with ⟨_, h0⟩ | ⟨g, cap, cur, e2, hb, hh, _⟩
  · exact .inr (List.eq_nil_of_length_eq_zero h0)
  · rw [e] at e2
    simp only [Value.slice.injEq] at e2
    exact .inl ⟨g, e2.1, hb, (Array.getElem?_eq_some_iff.1 hh).1⟩
theorem Mds.at_ {w : World} {A : Option Addr} {n : Nat} {l : List Md} (h : Mds w A n l) (i : Nat) (hi : i < n) : ∃ ad, A = some ad ∧ ad.block < w.heap.size ∧ w.cell? (ad.add (i * 3)) = some (.int .i64 ((l.getD i md0).1.1 : Int)) ∧ w.cell? (ad.add (i * 3 + 1)) = some (.int .i64 ((l.getD i md0).1.2 : Int)) ∧ w.cell? (ad.add (i * 3 + 2)) = some (.string (l.getD i md0).2) := by
  obtain ⟨ad, e, hb, hc⟩ := h.2 (by omega)
  obtain ⟨h1, h2, h3⟩ := mdc_get l i (by rw [h.1]; exact hi)
  exact ⟨ad, e, hb, hc _ _ h1, hc _ _ h2, hc _ _ h3⟩
/-- The place of a node, by a name of its own. -/
theorem Mds.at3 {w : World} {A : Option Addr} {n : Nat} {l : List Md} (h : Mds w A n l) (i : Nat) (hi : i < n) : ∃ ad X, A = some ad ∧ ad.block < w.heap.size ∧ ad.add (i * 3) = X ∧ X.block = ad.block ∧ w.cell? X = some (.int .i64 ((l.getD i md0).1.1 : Int)) ∧ w.cell? ⟨X.block, X.off + 1, none⟩ = some (.int .i64 ((l.getD i md0).1.2 : Int)) ∧ w.cell? ⟨X.block, X.off + 2, none⟩ = some (.string (l.getD i md0).2) := by
  obtain ⟨ad, e, hb, h1, h2, h3⟩ := h.at_ i hi
  exact ⟨ad, _, e, hb, rfl, Lst.add_block _ _, h1, by rw [← Lst.add_add] at h2; exact h2, by rw [← Lst.add_add] at h3; exact h3⟩
theorem infoMade : (Tryd.prog.info? 54).map (fun i => (i.zero, i.size, i.bytes)) = some (some (.agg #[.int .i64 0, .int .i64 0, .string ⟨#[]⟩]), 3, 32) := by kernel_rfl
/-- The front of a row that is owned. -/
theorem own_cut {w : World} {base E s g n c m : Nat} {xs : List Value} (h : w.ownsRow base E s (.slice (some ⟨g, 0, none⟩) n c) n xs) (hm : m ≤ n) :
    w.ownsRow base E s (.slice (some ⟨g, 0, none⟩) m c) m (xs.take (m * s)) := by
  have hle : m * s ≤ n * s := Nat.mul_le_mul_right _ hm
  refine ⟨by rw [List.length_take, h.1]; omega, ?_⟩
  rcases h.2 with ⟨h0, _⟩ | ⟨g', cap, cur, e, hb, hh, hn, hmx, hs, ht⟩
  · cases h0
  · simp only [Value.slice.injEq, Option.some.injEq, Addr.mk.injEq] at e
    obtain ⟨⟨rfl, _⟩, _, rfl⟩ := e
    exact .inr ⟨_, _, cur, rfl, hb, hh, by omega, hmx, hs, by rw [← ht, List.take_take, Nat.min_eq_left hle]⟩
theorem ownA_pop {w : World} {base g n c : Nat} {l : List (Nat × Nat)} {y : Nat × Nat} (h : OwnA w base (.slice (some ⟨g, 0, none⟩) n c) (l ++ [y])) : OwnA w base (.slice (some ⟨g, 0, none⟩) l.length c) l := by
  have hn : n = l.length + 1 := by
    rcases h.2 with ⟨h0, _⟩ | ⟨g', cap, cur, e, _⟩
    · cases h0
    · simp only [Value.slice.injEq] at e; rw [e.2.1]; simp
  subst hn
  have h' : w.ownsRow base 52 2 (.slice (some ⟨g, 0, none⟩) (l.length + 1) c) (l.length + 1) (ac (l ++ [y])) := by
    have := h; unfold OwnA at this; rwa [List.length_append] at this
  have := own_cut h' (m := l.length) (by omega)
  rwa [ac_append, List.take_left' (ac_length l)] at this
theorem ownS_pop {w : World} {base g n c : Nat} {l : List ByteArray} {y : ByteArray} (h : Strs.Own w base (.slice (some ⟨g, 0, none⟩) n c) (l ++ [y])) : Strs.Own w base (.slice (some ⟨g, 0, none⟩) l.length c) l := by
  have hn := own_len h
  rw [List.length_append] at hn
  simp only [List.length_cons, List.length_nil] at hn
  subst hn
  have h' : w.ownsRow base 9 1 (.slice (some ⟨g, 0, none⟩) (l.length + 1) c) (l.length + 1) (sv (l ++ [y])) := by
    have := h; unfold Strs.Own at this; rwa [List.length_append] at this
  have := own_cut h' (m := l.length) (by omega)
  unfold sv at this
  rw [List.map_append, List.take_left' (by simp)] at this
  exact this
theorem ownM_pop {w : World} {base g n c : Nat} {l t : List Md} (h : OwnM w base (.slice (some ⟨g, 0, none⟩) n c) (l ++ t)) : OwnM w base (.slice (some ⟨g, 0, none⟩) l.length c) l := by
  have hn : n = l.length + t.length := by
    rcases h.2 with ⟨h0, _⟩ | ⟨g', cap, cur, e, _⟩
    · cases h0
    · simp only [Value.slice.injEq] at e; rw [e.2.1]; simp
  subst hn
  have h' : w.ownsRow base 54 3 (.slice (some ⟨g, 0, none⟩) (l.length + t.length) c) (l.length + t.length) (mdc (l ++ t)) := by
    have := h; unfold OwnM at this; rwa [List.length_append] at this
  have := own_cut h' (m := l.length) (by omega)
  rwa [mdc_append, List.take_left' (mdc_length l)] at this
section
variable {ops : Array Oper} {rest : List Oper} {o : Oper} {a : Act} {W : World} {Q : Exit → Act → World → Prop} {K : Act → World → Prop} {E : Prop}
/-- The value behind an append of one element. -/
def Behind (base E s : Nat) (W : World) (v : Value) (n : Nat) (cs : List Value) (g cap : Nat) (w' : World) : Prop :=
  w'.ownsRow base E s (.slice (some ⟨g, 0, none⟩) (n + 1) cap) (n + 1) cs ∧ W.grownBy w' v.ownBlock ∧ (v.ownBlock = some g ∨ W.heap.size ≤ g) ∧ g < w'.heap.size
theorem step_appA (hgd : o.guard = none) (s x : Operand) (ho : o.op = .call { callee := .builtin .append, args := #[s, x], argTypes := #[62, 62] })
    (base : Nat) (v : Value) (l : List (Nat × Nat)) (y : Nat × Nat) (b : Nat) (hs : a.eval s = v) (hx : a.eval x = .slice (some ⟨b, 0, none⟩) 1 1)
    (HO : OwnA W base v l) (hb : W.heap[b]? = some (.cells #[.int .i64 (y.1 : Int), .int .i64 (y.2 : Int)] 52 (0, 0))) (hbase : base ≤ W.heap.size) (hl : l.length + 1 ≤ 8796093022208)
    (h : ∀ g cap w', Behind base 52 2 W v l.length (ac (l ++ [y])) g cap w' → K (a.put o.dst (.slice (some ⟨g, 0, none⟩) (l.length + 1) cap)) w') :
    if Region.wanted o (yielded ops a.tmps) = true then Oper.wp Tryd.prog o a W K Q else E := by
  obtain ⟨i, hi, hz, hsz, hby⟩ := info_parts infoAddr
  refine step_append_lies W hgd s x _ ho base 52 i _ 2 16 Tryd.underlying62 hi hz hsz hby rfl (by omega) v l.length (ac l) hs HO ⟨b, 0, none⟩ 1 1 [.int .i64 (y.1 : Int), .int .i64 (y.2 : Int)] hx rfl
    (World.news_of_block (cs := #[.int .i64 (y.1 : Int), .int .i64 (y.2 : Int)]) hb) (by simp [Value.oneCell']) (by omega) (by simp only [maxLen]; omega) (by omega) hbase W.heap.size rfl ?_
  intro g cap w' h1 h2 h3 h4
  refine h g cap w' ⟨?_, h2, h3.imp id (fun e => by omega), h4⟩
  rw [ac_append]; exact h1
theorem step_appS (hgd : o.guard = none) (s x : Operand) (ho : o.op = .call { callee := .builtin .append, args := #[s, x], argTypes := #[22, 22] })
    (base : Nat) (v : Value) (l : List ByteArray) (y : ByteArray) (b : Nat) (hs : a.eval s = v) (hx : a.eval x = .slice (some ⟨b, 0, none⟩) 1 1)
    (HO : Strs.Own W base v l) (hb : W.heap[b]? = some (.cells #[.string y] 9 (0, 0))) (hbase : base ≤ W.heap.size) (hl : l.length + 1 ≤ 8796093022208)
    (h : ∀ g cap w', Behind base 9 1 W v l.length (sv (l ++ [y])) g cap w' → K (a.put o.dst (.slice (some ⟨g, 0, none⟩) (l.length + 1) cap)) w') :
    if Region.wanted o (yielded ops a.tmps) = true then Oper.wp Tryd.prog o a W K Q else E := by
  obtain ⟨i, hi, hz, hsz, hby⟩ := infoStr
  refine step_append_lies W hgd s x _ ho base 9 i _ 1 16 Tryd.underlying22 hi hz hsz hby rfl (by omega) v l.length (sv l) hs HO ⟨b, 0, none⟩ 1 1 [.string y] hx rfl
    (World.news_of_block (cs := #[.string y]) hb) (by simp [Value.oneCell']) (by omega) (by simp only [maxLen]; omega) (by omega) hbase W.heap.size rfl ?_
  intro g cap w' h1 h2 h3 h4
  refine h g cap w' ⟨?_, h2, h3.imp id (fun e => by omega), h4⟩
  unfold sv at *; rw [List.map_append]; exact h1
theorem step_appM (hgd : o.guard = none) (s x : Operand) (ho : o.op = .call { callee := .builtin .append, args := #[s, x], argTypes := #[40, 40] })
    (base : Nat) (v : Value) (l : List Md) (y : Md) (b : Nat) (hs : a.eval s = v) (hx : a.eval x = .slice (some ⟨b, 0, none⟩) 1 1)
    (HO : OwnM W base v l) (hb : W.heap[b]? = some (.cells #[.int .i64 (y.1.1 : Int), .int .i64 (y.1.2 : Int), .string y.2] 54 (0, 0))) (hbase : base ≤ W.heap.size) (hl : l.length + 1 ≤ 4398046511000)
    (h : ∀ g cap w', Behind base 54 3 W v l.length (mdc (l ++ [y])) g cap w' → K (a.put o.dst (.slice (some ⟨g, 0, none⟩) (l.length + 1) cap)) w') :
    if Region.wanted o (yielded ops a.tmps) = true then Oper.wp Tryd.prog o a W K Q else E := by
  obtain ⟨i, hi, hz, hsz, hby⟩ := info_parts infoMade
  refine step_append_lies W hgd s x _ ho base 54 i _ 3 32 Tryd.underlying40 hi hz hsz hby rfl (by omega) v l.length (mdc l) hs HO ⟨b, 0, none⟩ 1 1 [.int .i64 (y.1.1 : Int), .int .i64 (y.1.2 : Int), .string y.2] hx rfl
    (World.news_of_block (cs := #[.int .i64 (y.1.1 : Int), .int .i64 (y.1.2 : Int), .string y.2]) hb) (by simp [Value.oneCell']) (by omega) (by simp only [maxLen]; omega) (by omega) hbase W.heap.size rfl ?_
  intro g cap w' h1 h2 h3 h4
  refine h g cap w' ⟨?_, h2, h3.imp id (fun e => by omega), h4⟩
  rw [mdc_append]; exact h1
theorem wpList_appM (hgd : o.guard = none) (s x : Operand) (ho : o.op = .call { callee := .builtin .append, args := #[s, x], argTypes := #[40, 40] })
    (base : Nat) (v : Value) (l : List Md) (y : Md) (b : Nat) (hs : a.eval s = v) (hx : a.eval x = .slice (some ⟨b, 0, none⟩) 1 1)
    (HO : OwnM W base v l) (hb : W.heap[b]? = some (.cells #[.int .i64 (y.1.1 : Int), .int .i64 (y.1.2 : Int), .string y.2] 54 (0, 0))) (hbase : base ≤ W.heap.size) (hl : l.length + 1 ≤ 4398046511000)
    (h : ∀ g cap w', Behind base 54 3 W v l.length (mdc (l ++ [y])) g cap w' → wpList Tryd.prog ops Q rest (a.put o.dst (.slice (some ⟨g, 0, none⟩) (l.length + 1) cap)) w') :
    wpList Tryd.prog ops Q (o :: rest) a W := by
  obtain ⟨i, hi, hz, hsz, hby⟩ := info_parts infoMade
  refine wpList_append_lies W hgd s x _ ho base 54 i _ 3 32 Tryd.underlying40 hi hz hsz hby rfl (by omega) v l.length (mdc l) hs HO ⟨b, 0, none⟩ 1 1 [.int .i64 (y.1.1 : Int), .int .i64 (y.1.2 : Int), .string y.2] hx rfl
    (World.news_of_block (cs := #[.int .i64 (y.1.1 : Int), .int .i64 (y.1.2 : Int), .string y.2]) hb) (by simp [Value.oneCell']) (by omega) (by simp only [maxLen]; omega) (by omega) hbase W.heap.size rfl ?_
  intro g cap w' h1 h2 h3 h4
  refine h g cap w' ⟨?_, h2, h3.imp id (fun e => by omega), h4⟩
  rw [mdc_append]; exact h1
end
end Go.Proofs.YtahkpcbemnfllaaDoor.Comp
