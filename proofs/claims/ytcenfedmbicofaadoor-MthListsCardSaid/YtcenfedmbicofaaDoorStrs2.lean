/- Cuts of slices of texts; lists of texts that a call owns. -/
import Derived.Test.YtcenfedmbicofaaDoorStrs
import Derived.Laws.AppendOwn
import Derived.Maps.AppendAt
import Derived.Deep.AppendLies
set_option linter.unusedVariables false
set_option linter.unusedSimpArgs false
namespace Go.Proofs.YtcenfedmbicofaaDoor.Strs
open Go.RowKit Go.Proofs.YtcenfedmbicofaaDoor.Mem

/-- The address of a cut. -/
def cutA (A : Option Addr) (l m : Nat) : Option Addr := if m = l then A else A.map (·.add l)
theorem sizeStr : (Tryd.prog.info? 9).map (·.size) = some 1 := by kernel_rfl
theorem elemStr : Tryd.prog.elem 26 = 9 := by kernel_rfl
theorem run_cut (W : World) (A : Option Addr) (n c l h m : Nat) (lo hi mx : Option Value) (hb : (Instr.sliceBounds true n c lo hi mx).run Tryd.prog W = .ok (l, h, m) W) :
    (Instr.slice 26 (.slice A n c) lo hi mx).run Tryd.prog W = .ok (.slice (cutA A l m) (h - l) (m - l)) W := by
  have hu := Tryd.underlying26
  have hs := sizeStr
  cases hq : Tryd.prog.info? 9 with
  | none => rw [hq] at hs; cases hs
  | some i =>
    rw [hq] at hs
    have hsz : i.size = 1 := by simpa using hs
    simp [Instr.slice, run_underlying hu, hb, sizeOf, typeInfo, hq, hsz, cutA]
theorem run_cut_l (W : World) (A : Option Addr) (n c l : Nat) (hl : l ≤ n) :
    (Instr.slice 26 (.slice A n c) (some (.int .i64 (l : Int))) none none).run Tryd.prog W = .ok (.slice (cutA A l c) (n - l) (c - l)) W := by
  refine run_cut W A n c l n c _ _ _ ?_
  have e1 : (l : Int) ≤ n := by omega
  simp [Instr.sliceBounds, run_sliceBound, e1]
theorem run_cut_h (W : World) (A : Option Addr) (n c h : Nat) (hc : h ≤ c) :
    (Instr.slice 26 (.slice A n c) none (some (.int .i64 (h : Int))) none).run Tryd.prog W = .ok (.slice A h c) W := by
  have e1 : (h : Int) ≤ c := by omega
  have := run_cut W A n c 0 h c none (some (.int .i64 (h : Int))) none (by simp [Instr.sliceBounds, run_sliceBound, e1])
  rw [this]
  have : cutA A 0 c = A := by
    unfold cutA
    split
    · rfl
    · cases A <;> simp [Addr.add]
  rw [this]; simp
theorem run_cut_lh (W : World) (A : Option Addr) (n c l h : Nat) (hl : l ≤ h) (hc : h ≤ c) :
    (Instr.slice 26 (.slice A n c) (some (.int .i64 (l : Int))) (some (.int .i64 (h : Int))) none).run Tryd.prog W = .ok (.slice (cutA A l c) (h - l) (c - l)) W := by
  refine run_cut W A n c l h c _ _ _ ?_
  have e1 : (l : Int) ≤ h := by omega
  have e2 : (h : Int) ≤ c := by omega
  simp [Instr.sliceBounds, run_sliceBound, e1, e2]
theorem run_cut_lhm (W : World) (A : Option Addr) (n c l h m : Nat) (hl : l ≤ h) (hm : h ≤ m) (hc : m ≤ c) :
    (Instr.slice 26 (.slice A n c) (some (.int .i64 (l : Int))) (some (.int .i64 (h : Int))) (some (.int .i64 (m : Int)))).run Tryd.prog W = .ok (.slice (cutA A l m) (h - l) (m - l)) W := by
  refine run_cut W A n c l h m _ _ _ ?_
  have e1 : (l : Int) ≤ h := by omega
  have e2 : (h : Int) ≤ m := by omega
  have e3 : (m : Int) ≤ c := by omega
  simp [Instr.sliceBounds, run_sliceBound, e1, e2, e3]
theorem run_cut_0hm (W : World) (A : Option Addr) (n c h m : Nat) (hm : h ≤ m) (hc : m ≤ c) :
    (Instr.slice 26 (.slice A n c) (some (.int .i64 0)) (some (.int .i64 (h : Int))) (some (.int .i64 (m : Int)))).run Tryd.prog W = .ok (.slice A h m) W := by
  have := run_cut_lhm W A n c 0 h m (by omega) hm hc
  have e : cutA A 0 m = A := by
    unfold cutA
    split
    · rfl
    · cases A <;> simp [Addr.add]
  rw [e] at this
  simpa using this
variable {w wx : World} {A : Option Addr} {n : Nat} {ss : List ByteArray}
theorem Strs.cut (h : Strs w A n ss) (l k m : Nat) (hl : l ≤ k) (hk : k ≤ n) (hm : k ≤ m) : Strs w (cutA A l m) (k - l) ((ss.take k).drop l) := (h.take k hk).drop l hl m hm
theorem Strs.cut_all (h : Strs w A n ss) (l m : Nat) (hl : l ≤ n) (hm : n ≤ m) : Strs w (cutA A l m) (n - l) (ss.drop l) := h.drop l hl m hm

/-! ### lists of texts that a call has made -/
def sv (ss : List ByteArray) : List Value := ss.map .string
theorem sv_length (ss : List ByteArray) : (sv ss).length = ss.length := List.length_map _
theorem sv_get (ss : List ByteArray) (i : Nat) (h : i < ss.length) : (sv ss)[i]? = some (.string (ss.getD i ⟨#[]⟩)) := by simp [sv, List.getD_eq_getElem?_getD, h]
theorem sv_one (ss : List ByteArray) : ∀ u ∈ sv ss, u.oneCell' = true := by
  intro u hu
  simp only [sv, List.mem_map] at hu
  obtain ⟨x, _, rfl⟩ := hu
  rfl
/-- The slice v, of a row from block base on, holds these texts, and nothing else leads there. -/
abbrev Own (w : World) (base : Nat) (v : Value) (ss : List ByteArray) : Prop := w.ownsRow base 9 1 v ss.length (sv ss)
theorem Own.nil (w : World) (base : Nat) : Own w base (.slice none 0 0) [] := World.ownsRow_nil _ _ _ _
theorem Own.shape {base : Nat} {v : Value} (h : Own w base v ss) : ∃ B c, v = .slice B ss.length c ∧ ss.length ≤ c ∧ Strs w B ss.length ss := by
  rcases h.2 with ⟨rfl, h0⟩ | ⟨g, cap, cur, rfl, hb, hh, hnc, hmx, _⟩
  · have := List.eq_nil_of_length_eq_zero h0
    subst this
    exact ⟨none, 0, rfl, Nat.le_refl _, Strs.nil _ _⟩
  · refine ⟨_, cap, rfl, hnc, rfl, fun hp => ⟨_, rfl, ?_, fun i hi => h.cells (g := g) rfl i _ (sv_get ss i hi)⟩⟩
    exact (Array.getElem?_eq_some_iff.1 hh).1
theorem Own.base_le {base : Nat} {v : Value} (h : Own w base v ss) (k : Nat) (hk : v.ownBlock = some k) : base ≤ k := by
  rcases h.2 with ⟨rfl, _⟩ | ⟨g, cap, cur, rfl, hb, _⟩
  · simp [Value.ownBlock] at hk
  · have : g = k := by simpa [Value.ownBlock] using hk
    omega
theorem Own.below {base : Nat} {v : Value} (h : Own w base v ss) (hb : Below w.heap.size w wx) : Own wx base v ss :=
  World.ownsRow.kept h (Grew.of_below hb none) (by cases v.ownBlock <;> simp)
theorem own_down {w : World} {base base' : Nat} {v : Value} {ss : List ByteArray} (h : Own w base v ss) (hb : base' ≤ base) : Own w base' v ss := by
  refine ⟨h.1, ?_⟩
  rcases h.2 with h1 | ⟨g, cap, cur, e, h2, h3⟩
  · exact .inl h1
  · exact .inr ⟨g, cap, cur, e, Nat.le_trans hb h2, h3⟩
theorem infoStr : ∃ i, Tryd.prog.info? 9 = some i ∧ i.zero = some (.string ⟨#[]⟩) ∧ i.size = 1 ∧ i.bytes = 16 := by
  have h : (Tryd.prog.info? 9).map (fun i => (i.zero, i.size, i.bytes)) = some (some (.string ⟨#[]⟩), 1, 16) := by kernel_rfl
  cases hq : Tryd.prog.info? 9 with
  | none => rw [hq] at h; exact absurd h (by simp)
  | some i => rw [hq] at h; simp at h; exact ⟨i, rfl, h.1, h.2.1, h.2.2⟩
section
variable {ops : Array Oper} {rest : List Oper} {o : Oper} {a : Act} {W : World} {Q : Exit → Act → World → Prop}
/-- append(v, x) of one text: the goal's world is the one that has laid the box for x. -/
theorem wpList_app1 {w0 : World} (base : Nat) (hgd : o.guard = none) (s x : Operand) (ho : o.op = .call { callee := .builtin .append, args := #[s, x], argTypes := #[26, 26] })
    (v : Value) (ss : List ByteArray) (y : ByteArray) (hs : a.eval s = v) (hx : a.eval x = .slice (some ⟨W.heap.size, 0, none⟩) 1 1)
    (HO : Own W base v ss) (HB : Below base w0 W) (hbase : base ≤ W.heap.size) (hl : ss.length + 1 ≤ 8796093022208)
    (h : ∀ v1 w1, Own w1 base v1 (ss ++ [y]) → Below base w0 w1 → W.grownBy w1 v.ownBlock → (v1.ownBlock = v.ownBlock ∨ ∃ b, v1.ownBlock = some b ∧ W.heap.size ≤ b) → wpList Tryd.prog ops Q rest (a.put o.dst v1) w1) :
    wpList Tryd.prog ops Q (o :: rest) a (W.alloc (.cells #[.string y] 9)) := by
  obtain ⟨i, hi, hz, hsz, hby⟩ := infoStr
  refine wpList_append_own_at (W.alloc (.cells #[.string y] 9)) hgd s x 26 ho base 9 i _ 1 16 Tryd.underlying26 hi hz hsz hby rfl (by omega) v ss.length (sv ss) hs (HO.alloc _) ⟨W.heap.size, 0, none⟩ 1 1 [.string y] hx rfl
    (World.news_of_block (cs := #[.string y]) (t := 9) (fr := (0, 0)) (heap_alloc_new W _)) (by simp [Value.oneCell']) (by simp only [maxLen]; omega) (by omega) (by simp; omega) ?_
  intro v1 w1 hown hg _ hat
  refine h v1 w1 (by unfold Own; rw [List.length_append]; simpa [sv] using hown) ((HB.alloc hbase _).grown hg (by simp; omega) HO.base_le) (World.grownBy.trans (World.grownBy_alloc W _ _) hg) ?_
  rcases hat with hat | hat
  · exact .inl hat
  · exact .inr ⟨_, hat, by simp⟩
/-- append(v, xs...): xs a slice that is read, nil let in. -/
theorem wpList_appRow {w0 : World} (base : Nat) (hgd : o.guard = none) (s x : Operand) (ho : o.op = .call { callee := .builtin .append, args := #[s, x], argTypes := #[26, 26] })
    (v : Value) (ss ys : List ByteArray) (B : Option Addr) (m c : Nat) (hs : a.eval s = v) (hx : a.eval x = .slice B m c)
    (HO : Own W base v ss) (HR : Strs W B m ys) (HB : Below base w0 W) (hbase : base ≤ W.heap.size) (hl : ss.length + m ≤ 8796093022208)
    (h : ∀ v1 w1, Own w1 base v1 (ss ++ ys) → Below base w0 w1 → W.grownBy w1 v.ownBlock → (v1.ownBlock = v.ownBlock ∨ ∃ b, v1.ownBlock = some b ∧ W.heap.size ≤ b) → wpList Tryd.prog ops Q rest (a.put o.dst v1) w1) :
    wpList Tryd.prog ops Q (o :: rest) a W := by
  obtain ⟨i, hi, hz, hsz, hby⟩ := infoStr
  have hm : ys.length = m := HR.1
  have hca : sv ss ++ sv ys = sv (ss ++ ys) := (List.map_append ..).symm
  have hrun : ∃ v1 w1, (Builtin.append_ #[26, 26] o.type #[v, .slice B m c]).run Tryd.prog W = .ok v1 w1 ∧ Own w1 base v1 (ss ++ ys) ∧ W.grownBy w1 v.ownBlock ∧ (v1.ownBlock = v.ownBlock ∨ v1.ownBlock = some W.heap.size) := by
    rcases B with _ | ad
    · have h0 : m = 0 := by
        rcases Nat.eq_zero_or_pos m with h0 | h0
        · exact h0
        · obtain ⟨ad, h, _⟩ := HR.2 h0
          cases h
      subst h0
      obtain rfl : ys = [] := List.eq_nil_of_length_eq_zero hm
      refine ⟨v, W, ?_, by rw [List.append_nil]; exact HO, World.grownBy.refl W _, .inl rfl⟩
      have ht := Tryd.underlying26
      rcases HO.2 with ⟨rfl, hn⟩ | ⟨g, cap, cur, rfl, _, _, hnc, _⟩
      · simp [Builtin.append_, run_underlying ht, sizeOf, typeInfo, hi, Builtin.lenOf, Builtin.firstCells]
      · simp [Builtin.append_, run_underlying ht, sizeOf, typeInfo, hi, Builtin.lenOf, Builtin.firstCells, hnc, storeCells]
    · have hcells : ∀ j u, (sv ys)[j]? = some u → W.cell? (ad.add j) = some u := by
        intro j u hu
        have hj : j < ys.length := by
          rcases Nat.lt_or_ge j ys.length with h | h
          · exact h
          · rw [List.getElem?_eq_none (by rw [sv_length]; exact h)] at hu; cases hu
        obtain ⟨ad', h', _, hc⟩ := HR.2 (by omega)
        have h' := Option.some.inj h'
        subst h'
        rw [hc j (by omega)]
        rw [sv_get ys j hj] at hu
        exact hu
      obtain ⟨v1, w1, hr, h2, h3, _, h5⟩ := run_append_own_at (P := Tryd.prog) W base 26 o.type 9 i _ 1 16 Tryd.underlying26 hi hz hsz hby rfl (by omega) v ss.length (sv ss) HO ad m c (sv ys) (by rw [sv_length, hm, Nat.mul_one]) hcells
        (sv_one ys) (by simp only [maxLen]; omega) (by omega) hbase
      exact ⟨v1, w1, hr, by unfold Own; rw [← hca, List.length_append, hm]; exact h2, h3, h5⟩
  obtain ⟨v1, w1, hr, hown, hg, hat⟩ := hrun
  refine wpList_plain hgd fun K hK => ?_
  unfold Oper.wp execOp
  simp only [ho, resolve, invoke, builtin, Sem.run_bind, Sem.run_pure, Result.andThen_ok, List.map_toArray, List.map_cons, List.map_nil, hs, hx, hr]
  refine hK _ _ (h v1 w1 hown (HB.grown hg hbase HO.base_le) hg ?_)
  rcases hat with hat | hat
  · exact .inl hat
  · exact .inr ⟨_, hat, Nat.le_refl _⟩
end
end Go.Proofs.YtcenfedmbicofaaDoor.Strs
