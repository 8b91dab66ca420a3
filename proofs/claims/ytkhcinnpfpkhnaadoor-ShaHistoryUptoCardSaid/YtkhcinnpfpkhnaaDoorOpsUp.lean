/- A script of calls that comes in, where what is read is small. -/
import Derived.Test.YtkhcinnpfpkhnaaDoorHist4
import Derived.Test.YtkhcinnpfpkhnaaDoorRows
import Derived.Deep.Slices
import Derived.Deep.Strs
import Derived.ChangeArms
set_option linter.unusedVariables false
set_option linter.unusedSimpArgs false
namespace Go.Proofs.YtkhcinnpfpkhnaaDoor.Hist
open Go.RowKit Go.ChangeShapes Go.WideShapes Go.Deep Go.Proofs.YtkhcinnpfpkhnaaDoor.Mem

theorem cellsOp : Tryd.prog.cellsOf 28 = 3 := by kernel_rfl
theorem cellsInt : Tryd.prog.cellsOf 3 = 1 := by kernel_rfl
theorem cellsStr : Tryd.prog.cellsOf 9 = 1 := by kernel_rfl
theorem bulk_get {H : Type} (D : Nat → DataW H) : ∀ n i, i < n → Rows.uptoBulk (D i) ≤ Rows.uptoBulkAll ((List.range n).map D) ∧ n ≤ Rows.uptoBulkAll ((List.range n).map D) + n
  | n, i, h => by
    refine ⟨?_, by omega⟩
    have : ∀ l : List Nat, i ∈ l → Rows.uptoBulk (D i) ≤ Rows.uptoBulkAll (l.map D) := by
      intro l
      induction l with
      | nil => intro h; cases h
      | cons x l ih =>
        intro h
        simp only [List.map_cons, Rows.uptoBulkAll]
        rcases List.mem_cons.1 h with rfl | h
        · omega
        · have := ih h; omega
    exact this _ (List.mem_range.2 h)
theorem bulk_pos {H : Type} (d : DataW H) : 1 ≤ Rows.uptoBulk d := by
  cases d with
  | lit l => cases l <;> simp [Rows.uptoBulk]
  | _ => simp [Rows.uptoBulk]
theorem bulk_len {H : Type} (l : List (DataW H)) : l.length ≤ Rows.uptoBulkAll l := by
  induction l with
  | nil => simp [Rows.uptoBulkAll]
  | cons x l ih =>
    simp only [List.length_cons, Rows.uptoBulkAll]
    have := bulk_pos x
    omega
theorem came_ops {H : Type} {enc : TypeId × Value → H} {W : World} {held : Bool} {a : Option Addr} {len cap : Nat} {d : DataW H} {ps : List MemPlace}
    (h : DataW.Trod enc Tryd.prog W 0 (fun _ => true) held 22 (.slice a len cap) d ps) : ∃ l, Ops W a len l ∧ (∀ o ∈ l, o.2.2.size ≤ Rows.uptoBulk d) ∧ len ≤ Rows.uptoBulk d := by
  obtain ⟨fuel, hf⟩ := h
  rcases open_slice Tryd.underlying22 hf with ⟨hcs, _⟩ | ⟨x, l, c, m, n, D, Pl, hcs, _, hl, hm, hmm, hx, hi⟩
  · simp [Value.cells] at hcs
    obtain ⟨rfl, rfl, rfl⟩ := hcs
    exact ⟨[], ⟨rfl, fun h => absurd h (by omega)⟩, fun o ho => (by cases ho), Nat.zero_le _⟩
  · simp [Value.cells] at hcs
    obtain ⟨rfl, rfl, rfl⟩ := hcs
    simp only [if_true] at hmm
    have hbd : Rows.uptoBulkAll ((List.range len).map D) ≤ Rows.uptoBulk d := by
      obtain ⟨hd, _⟩ := Prod.mk.inj hx
      rw [hd]
      simp only [Rows.uptoBulk]
      omega
    have aa : ∀ j k, (x.add j).add k = x.add (j + k) := fun j k => by
      unfold Addr.add
      by_cases hi : j = 0 <;> by_cases hj : k = 0 <;> simp [hi, hj, Nat.add_assoc]
    have ab : ∀ j, (x.add j).block = x.block := fun j => by unfold Addr.add; split <;> rfl
    have hex : ∀ i, ∃ o : Op, i < len → W.cell? (x.add (i * 3)) = some (.int .i64 o.1) ∧ W.cell? (x.add (i * 3 + 1)) = some (.int .i64 o.2.1) ∧ W.cell? (x.add (i * 3 + 2)) = some (.string o.2.2) ∧ o.2.2.size ≤ Rows.uptoBulk (D i) := by
      intro i
      by_cases hil : i < len
      · obtain ⟨cs', hc, ht⟩ := hi i (by omega)
        rw [cellsOp] at hc
        obtain ⟨_, hcl, hat⟩ := World.cells?_some hc
        obtain ⟨y0, y1, y2, n', hD, _, h0, h1, h2⟩ := trod_struct3 Tryd.underlying28 ht
        match cs', hcl with
        | [v0, v1, v2], _ =>
          simp only [cellsInt, cellsStr, List.drop_zero, List.take_succ_cons, List.take_zero, List.drop_succ_cons] at h0 h1 h2
          obtain ⟨k, e0, _, _⟩ := DataW.trod_int Tryd.underlying3 h0
          obtain ⟨o, e1, _, _⟩ := DataW.trod_int Tryd.underlying3 h1
          obtain ⟨s, e2, hy2, _⟩ := DataW.trod_string Tryd.underlying9 h2
          simp only [List.cons.injEq, and_true] at e0 e1 e2
          subst e0 e1 e2
          have q0 := hat 0 (by omega)
          have q1 := hat 1 (by omega)
          have q2 := hat 2 (by omega)
          rw [aa] at q0 q1 q2
          refine ⟨(k, o, s), fun _ => ⟨q0, q1, q2, ?_⟩⟩
          have hD1 := (Prod.mk.inj hD).1
          rw [hD1]
          subst hy2
          simp only [Rows.uptoBulk, Rows.uptoBulkAll]
          have : s.data.toList.length = s.size := by rw [Array.length_toList]; rfl
          show s.size ≤ _
          omega
      · exact ⟨op0, fun h => absurd h hil⟩
    obtain ⟨f, hf⟩ := Classical.axiomOfChoice hex
    have hg : ∀ i, i < len → ((List.range len).map f).getD i op0 = f i := fun i hi => by simp [List.getD_eq_getElem?_getD, hi]
    refine ⟨(List.range len).map f, ⟨by simp, fun hn => ⟨x, rfl, ?_, fun i hi => ?_⟩⟩, fun o ho => ?_, ?_⟩
    · have := World.block_lt_of_cell? W _ (hf 0 hn).1
      rwa [ab] at this
    · rw [hg i hi]
      exact ⟨(hf i hi).1, (hf i hi).2.1, (hf i hi).2.2.1⟩
    · obtain ⟨i, hi, rfl⟩ := List.mem_map.1 ho
      have hil := List.mem_range.1 hi
      have := (hf i hil).2.2.2
      have := (bulk_get D len i hil).1
      omega
    · have := bulk_len ((List.range len).map D)
      rw [List.length_map, List.length_range] at this
      omega
end Go.Proofs.YtkhcinnpfpkhnaaDoor.Hist
