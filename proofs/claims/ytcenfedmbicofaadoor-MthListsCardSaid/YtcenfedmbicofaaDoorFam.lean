/- Families of lists of texts that a call owns, apart from one another; what stays while one of them is written or grows. -/
import Derived.Test.YtcenfedmbicofaaDoorStrs2
import Derived.Test.YtcenfedmbicofaaDoorKeep
import Derived.OneCell
set_option linter.unusedVariables false
set_option linter.unusedSimpArgs false
namespace Go.Proofs.YtcenfedmbicofaaDoor.Fam
open Go.RowKit Go.Proofs.YtcenfedmbicofaaDoor.Mem Go.Proofs.YtcenfedmbicofaaDoor.Strs
open Go.Proofs.YtcenfedmbicofaaDoor.Lst (Kp own_below own_lt own_base own_kp)

theorem len_of {w : World} {base : Nat} {B : Option Addr} {n c : Nat} {xs : List ByteArray} (h : Own w base (.slice B n c) xs) : xs.length = n := by
  rcases h.2 with ⟨h0, h1⟩ | ⟨g', cap, cur, h0, _⟩
  · simp only [Value.slice.injEq] at h0; omega
  · simp only [Value.slice.injEq] at h0; omega
theorem set_of {w : World} {base g n c : Nat} {xs : List ByteArray} (h : Own w base (.slice (some ⟨g, 0, none⟩) n c) xs) (i : Nat) (s : ByteArray) :
    Own (w.setCell ⟨g, i, none⟩ (.string s)) base (.slice (some ⟨g, 0, none⟩) n c) (xs.set i s) ∧ w.grownBy (w.setCell ⟨g, i, none⟩ (.string s)) (some g) := by
  have hl := len_of h
  unfold Own at *
  rw [hl] at h
  obtain ⟨h1, h2⟩ := h.stored i (.string s)
  refine ⟨?_, h2⟩
  rw [List.length_set, hl]
  unfold sv at *
  rw [List.map_set]
  exact h1
theorem cell_of {w : World} {base g n c : Nat} {xs : List ByteArray} (h : Own w base (.slice (some ⟨g, 0, none⟩) n c) xs) (i : Nat) (hi : i < n) : w.cell? ⟨g, i, none⟩ = some (.string (xs.getD i ⟨#[]⟩)) ∧ w.frozen? ⟨g, i, none⟩ = false := by
  have hl := len_of h
  unfold Own at h
  rw [hl] at h
  refine ⟨?_, h.frozenAt i⟩
  rw [h.cellAt i (by omega)]
  exact sv_get xs i (by omega)
theorem block_of {w : World} {base : Nat} {B : Option Addr} {n c : Nat} {xs : List ByteArray} (h : Own w base (.slice B n c) xs) (hn : 0 < n) : ∃ g, B = some ⟨g, 0, none⟩ ∧ base ≤ g ∧ g < w.heap.size := by
  rcases h.2 with ⟨h0, h1⟩ | ⟨g, cap, cur, h0, hb, hh, _⟩
  · simp only [Value.slice.injEq] at h0; omega
  · simp only [Value.slice.injEq] at h0
    exact ⟨g, h0.1, hb, (Array.getElem?_eq_some_iff.1 hh).1⟩
/-- append of one text: it lies behind in the same row, or all has moved and nothing that was there is touched. -/
theorem run_app {W : World} (t : TypeId) (base : Nat) (v : Value) (ss : List ByteArray) (y : ByteArray) (b : Nat) (HO : Own W base v ss) (hb : W.heap[b]? = some (.cells #[.string y] 9 (0, 0))) (hbase : base ≤ W.heap.size) (hl : ss.length + 1 ≤ 8796093022208) :
    ∃ g c w1, (Builtin.append_ #[26, 26] t #[v, .slice (some ⟨b, 0, none⟩) 1 1]).run Tryd.prog W = .ok (.slice (some ⟨g, 0, none⟩) (ss.length + 1) c) w1 ∧ Own w1 base (.slice (some ⟨g, 0, none⟩) (ss.length + 1) c) (ss ++ [y]) ∧
      ((v = .slice (some ⟨g, 0, none⟩) ss.length c ∧ W.grownBy w1 (some g)) ∨ (W.heap.size ≤ g ∧ Below W.heap.size W w1)) := by
  obtain ⟨i, hi, hz, hsz, hby⟩ := infoStr
  have hn1 : ∀ (j : Nat) u, [Value.string y][j]? = some u → W.cell? ((⟨b, 0, none⟩ : Addr).add j) = some u := World.news_of_block (cs := #[.string y]) hb
  have h1 : ∀ u ∈ [Value.string y], u.oneCell' = true := by simp [Value.oneCell']
  obtain ⟨g, c, w1, hr, h2, h3, h4, h5⟩ := run_append_lies (P := Tryd.prog) W 26 t base 9 i _ 1 16 Tryd.underlying26 hi hz hsz hby rfl (by omega) v ss.length (sv ss) HO ⟨b, 0, none⟩ 1 1 [.string y] rfl hn1 h1 (by omega) (by simp only [maxLen]; omega) (by omega) hbase W.heap.size rfl
  have hown : Own w1 base (.slice (some ⟨g, 0, none⟩) (ss.length + 1) c) (ss ++ [y]) := by unfold Own sv at *; rw [List.length_append, List.map_append]; exact h2
  refine ⟨g, c, w1, hr, hown, ?_⟩
  rcases HO.2 with ⟨rfl, hn⟩ | ⟨g0, cap, cur, rfl, hbg, hg, hnc, hcm, hcs, htake⟩
  · right
    rcases h4 with h4 | h4
    · simp [Value.ownBlock] at h4
    · exact ⟨by omega, Grew.below h3⟩
  · by_cases hroom : ss.length + 1 ≤ cap
    · left
      have hr2 := run_append_room (P := Tryd.prog) W 26 t 9 i Tryd.underlying26 hi g0 ss.length cap cur hg ⟨b, 0, none⟩ 1 1 [.string y] (by rw [hsz]; rfl) hn1 h1 hroom (by rw [hsz, hcs]; simp; omega)
      rw [hr2] at hr
      simp only [Result.ok.injEq, Value.slice.injEq, Option.some.injEq, Addr.mk.injEq] at hr
      obtain ⟨⟨⟨rfl, _⟩, _, rfl⟩, _⟩ := hr
      exact ⟨rfl, h3⟩
    · right
      have holds : ∀ j u, (sv ss)[j]? = some u → W.cell? ((⟨g0, 0, none⟩ : Addr).add j) = some u := World.ownsRow.cells (g := g0) HO rfl
      have hr2 := run_append_grow (P := Tryd.prog) W 26 t 9 i _ Tryd.underlying26 hi hz ⟨g0, 0, none⟩ ss.length cap (sv ss) (by rw [hsz, sv_length]; omega) holds ⟨b, 0, none⟩ 1 1 [.string y] (by rw [hsz]; rfl) hn1 (by omega) (by omega) (growslice_fits (by omega) (by rw [hby]; omega))
      rw [hr2] at hr
      simp only [Result.ok.injEq, Value.slice.injEq, Option.some.injEq, Addr.mk.injEq] at hr
      obtain ⟨⟨⟨rfl, _⟩, _, _⟩, rfl⟩ := hr
      exact ⟨Nat.le_refl _, ((Below.refl _ W).drew).alloc (Nat.le_refl _) _⟩
section
variable {ops : Array Oper} {rest : List Oper} {o : Oper} {a : Act} {W : World} {Q : Exit → Act → World → Prop}
theorem wpList_app (hgd : o.guard = none) (s x : Operand) (ho : o.op = .call { callee := .builtin .append, args := #[s, x], argTypes := #[26, 26] })
    (base : Nat) (v : Value) (ss : List ByteArray) (y : ByteArray) (b : Nat) (hs : a.eval s = v) (hx : a.eval x = .slice (some ⟨b, 0, none⟩) 1 1)
    (HO : Own W base v ss) (hb : W.heap[b]? = some (.cells #[.string y] 9 (0, 0))) (hbase : base ≤ W.heap.size) (hl : ss.length + 1 ≤ 8796093022208)
    (h : ∀ g c w1, Own w1 base (.slice (some ⟨g, 0, none⟩) (ss.length + 1) c) (ss ++ [y]) → ((v = .slice (some ⟨g, 0, none⟩) ss.length c ∧ W.grownBy w1 (some g)) ∨ (W.heap.size ≤ g ∧ Below W.heap.size W w1)) → wpList Tryd.prog ops Q rest (a.put o.dst (.slice (some ⟨g, 0, none⟩) (ss.length + 1) c)) w1) :
    wpList Tryd.prog ops Q (o :: rest) a W := by
  obtain ⟨g, c, w1, hr, h1, h2⟩ := run_app o.type base v ss y b HO hb hbase hl
  refine wpList_plain hgd fun K hK => ?_
  unfold Oper.wp execOp
  simp only [ho, resolve, invoke, builtin, Sem.run_bind, Sem.run_pure, Result.andThen_ok, List.map_toArray, List.map_cons, List.map_nil, hs, hx, hr]
  exact hK _ _ (h g c w1 h1 h2)
end
/-- The front of a list that is owned. -/
theorem own_front {w : World} {base g n c : Nat} {xs ys : List ByteArray} (h : Own w base (.slice (some ⟨g, 0, none⟩) n c) (xs ++ ys)) : Own w base (.slice (some ⟨g, 0, none⟩) xs.length c) xs := by
  have hn := len_of h
  rw [List.length_append] at hn
  subst hn
  unfold Own sv at *
  rw [List.map_append, List.length_append] at h
  refine ⟨by simp, ?_⟩
  rcases h.2 with ⟨h0, _⟩ | ⟨g', cap, cur, e, hb, hh, hn, hmx, hs, ht⟩
  · cases h0
  · simp only [Value.slice.injEq, Option.some.injEq, Addr.mk.injEq] at e
    obtain ⟨⟨rfl, _⟩, _, rfl⟩ := e
    refine .inr ⟨g, c, cur, rfl, hb, hh, by omega, hmx, hs, ?_⟩
    have h2 := congrArg (List.take (xs.length * 1)) ht
    rw [List.take_take, Nat.min_eq_left (by omega), List.take_left' (by simp)] at h2
    exact h2
theorem strs_of {w : World} {base : Nat} {B : Option Addr} {n c : Nat} {xs : List ByteArray} (h : Own w base (.slice B n c) xs) : Strs w B n xs ∧ n ≤ c := by
  obtain ⟨B', c', e, hc, hs⟩ := h.shape
  simp only [Value.slice.injEq] at e
  obtain ⟨rfl, rfl, rfl⟩ := e
  exact ⟨hs, hc⟩
/-! ### families -/
abbrev En := Value × List ByteArray
abbrev en0 : En := (.slice none 0 0, [])
structure Fm (w0 : World) (L : List En) (W : World) : Prop where
  bel : Below w0.heap.size w0 W
  own : ∀ i, i < L.length → Own W w0.heap.size (L.getD i en0).1 (L.getD i en0).2
  ap : ∀ i j, i < L.length → j < L.length → i ≠ j → ∀ b, (L.getD i en0).1.ownBlock = some b → (L.getD j en0).1.ownBlock ≠ some b
variable {w0 W W' : World} {L : List En}
theorem Fm.nil (h : Below w0.heap.size w0 W) : Fm w0 [] W := ⟨h, fun i hi => absurd hi (by simp), fun i j hi => absurd hi (by simp)⟩
theorem Fm.call (h : Fm w0 L W) (b : Below W.heap.size W W') : Fm w0 L W' := ⟨h.bel.trans (b.mono h.bel.size), fun i hi => (h.own i hi).below b, h.ap⟩
theorem Fm.lt (h : Fm w0 L W) (i : Nat) (hi : i < L.length) (b : Nat) (e : (L.getD i en0).1.ownBlock = some b) : b < W.heap.size := own_lt (h.own i hi) b e
theorem Fm.ge (h : Fm w0 L W) (i : Nat) (hi : i < L.length) (b : Nat) (e : (L.getD i en0).1.ownBlock = some b) : w0.heap.size ≤ b := own_base (h.own i hi) b e
theorem getD_left {L : List En} {e : En} {i : Nat} (h : i < L.length) : (L ++ [e]).getD i en0 = L.getD i en0 := by
  rw [List.getD_eq_getElem?_getD, List.getElem?_append_left h, ← List.getD_eq_getElem?_getD]
theorem getD_last {L : List En} {e : En} : (L ++ [e]).getD L.length en0 = e := by
  rw [List.getD_eq_getElem?_getD, List.getElem?_append_right (Nat.le_refl _), Nat.sub_self]; rfl
theorem Fm.add (h : Fm w0 L W) (b : Below W.heap.size W W') {v : Value} {xs : List ByteArray} (o : Own W' W.heap.size v xs) : Fm w0 (L ++ [(v, xs)]) W' := by
  have hs := h.bel.size
  refine ⟨h.bel.trans (b.mono hs), fun i hi => ?_, fun i j hi hj hij q e1 e2 => ?_⟩
  · rw [List.length_append, List.length_singleton] at hi
    by_cases hlt : i < L.length
    · rw [getD_left hlt]; exact (h.own i hlt).below b
    · obtain rfl : i = L.length := by omega
      rw [getD_last]; exact own_down o hs
  · rw [List.length_append, List.length_singleton] at hi hj
    by_cases h1 : i < L.length
    · rw [getD_left h1] at e1
      by_cases h2 : j < L.length
      · rw [getD_left h2] at e2; exact h.ap i j h1 h2 hij q e1 e2
      · obtain rfl : j = L.length := by omega
        rw [getD_last] at e2
        have := h.lt i h1 q e1
        have := own_base o q e2
        omega
    · obtain rfl : i = L.length := by omega
      rw [getD_last] at e1
      have h2 : j < L.length := by omega
      rw [getD_left h2] at e2
      have := h.lt j h2 q e2
      have := own_base o q e1
      omega
theorem Fm.pick (h : Fm w0 L W) (σ : List Nat) (hs : ∀ i ∈ σ, i < L.length) (nd : σ.Nodup) : Fm w0 (σ.map fun i => L.getD i en0) W := by
  have hg : ∀ i, i < σ.length → (σ.map fun i => L.getD i en0).getD i en0 = L.getD (σ.getD i 0) en0 := fun i hi => by
    simp [List.getD_eq_getElem?_getD, hi]
  have hm : ∀ i, i < σ.length → σ.getD i 0 ∈ σ := fun i hi => by
    rw [List.getD_eq_getElem?_getD, List.getElem?_eq_getElem hi]; exact List.getElem_mem hi
  refine ⟨h.bel, fun i hi => ?_, fun i j hi hj hij q e1 e2 => ?_⟩
  · rw [List.length_map] at hi
    rw [hg i hi]; exact h.own _ (hs _ (hm i hi))
  · rw [List.length_map] at hi hj
    rw [hg i hi] at e1
    rw [hg j hj] at e2
    refine h.ap _ _ (hs _ (hm i hi)) (hs _ (hm j hj)) (fun e => ?_) q e1 e2
    rw [List.getD_eq_getElem?_getD, List.getElem?_eq_getElem hi, List.getD_eq_getElem?_getD, List.getElem?_eq_getElem hj] at e
    exact hij ((List.getElem_inj nd).1 e)
theorem set_getD (L : List En) (i j : Nat) (x : En) : (L.set i x).getD j en0 = if i = j ∧ j < L.length then x else L.getD j en0 := by
  rw [List.getD_eq_getElem?_getD, List.getElem?_set]
  by_cases hij : i = j
  · subst hij
    by_cases hl : i < L.length
    · simp [hl]
    · simp [hl, List.getD_eq_getElem?_getD]
  · simp [hij, List.getD_eq_getElem?_getD]
/-- One text of one list is written. -/
theorem Fm.write (h : Fm w0 L W) {k g n c : Nat} (hk : k < L.length) (hv : (L.getD k en0).1 = .slice (some ⟨g, 0, none⟩) n c) (j : Nat) (y : ByteArray) :
    Fm w0 (L.set k ((L.getD k en0).1, (L.getD k en0).2.set j y)) (W.setCell ⟨g, j, none⟩ (.string y)) := by
  have hgb : (L.getD k en0).1.ownBlock = some g := by rw [hv]; rfl
  have ho := h.own k hk
  have hge := h.ge k hk g hgb
  rw [hv] at ho
  obtain ⟨o1, o2⟩ := set_of ho j y
  have hfst : ∀ i, ((L.set k ((L.getD k en0).1, (L.getD k en0).2.set j y)).getD i en0).1 = (L.getD i en0).1 := fun i => by
    rw [set_getD]; split
    · rename_i h1; rw [← h1.1]
    · rfl
  refine ⟨h.bel.setCell (p := ⟨g, j, none⟩) hge _, fun i hi => ?_, fun i j hi hj hij q e1 e2 => ?_⟩
  · rw [List.length_set] at hi
    rw [set_getD]
    by_cases hik : k = i
    · subst hik
      rw [if_pos ⟨rfl, hk⟩, hv]; exact o1
    · rw [if_neg (fun e => hik e.1)]
      exact ownsRow_setCell_other (a := ⟨g, j, none⟩) (h.own i hi) (fun e => h.ap k i hk hi hik g hgb e) _
  · rw [List.length_set] at hi hj
    rw [hfst] at e1 e2
    exact h.ap i j hi hj hij q e1 e2
/-- One of the lists has grown beyond itself. -/
theorem Fm.grown (h : Fm w0 L W) {k : Nat} (hk : k < L.length) (hg : W.grownBy W' (L.getD k en0).1.ownBlock) (ho : Own W' w0.heap.size (L.getD k en0).1 (L.getD k en0).2) : Fm w0 L W' := by
  refine ⟨h.bel.grown hg h.bel.size (fun b e => h.ge k hk b e), fun i hi => ?_, h.ap⟩
  by_cases hik : i = k
  · subst hik; exact ho
  · refine World.ownsRow.kept (h.own i hi) hg ?_
    cases hq : (L.getD i en0).1.ownBlock with
    | none => exact .inl rfl
    | some b => exact .inr fun e => h.ap i k hi hk hik b hq e.symm
end Go.Proofs.YtcenfedmbicofaaDoor.Fam
