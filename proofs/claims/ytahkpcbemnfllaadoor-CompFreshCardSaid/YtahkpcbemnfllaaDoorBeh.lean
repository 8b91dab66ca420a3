/- (*run).behind of comp: its walk. -/
import Derived.Test.YtahkpcbemnfllaaDoorBehP
import Derived.BigRegion
import Derived.Deep.DrawnRows
set_option linter.unusedVariables false
set_option linter.unusedSimpArgs false
namespace Go.Proofs.YtahkpcbemnfllaaDoor.Comp
open Go.RowKit Go.Proofs.YtahkpcbemnfllaaDoor.Base Go.Proofs.YtahkpcbemnfllaaDoor.Mem Go.Proofs.YtahkpcbemnfllaaDoor.Strs Go.Proofs.YtahkpcbemnfllaaDoor.ShaDig Go.Proofs.YtahkpcbemnfllaaDoor.TreeHash Go.Proofs.YtahkpcbemnfllaaDoor.Cov
open Go.Proofs.YtahkpcbemnfllaaDoor.Lst (OwnA Adr OwnA.shape Kp own_below Lst ac ac_append ac_length infoAddr own_lt own_base own_shape own_kp)

/-- Two slices that share no row; a slice that lies not there. -/
def Apart (u v : Value) : Prop := ∀ k, u.ownBlock = some k → v.ownBlock = some k → False
def Off (p : Nat) (v : Value) : Prop := v.ownBlock ≠ some p
abbrev clo (F q : Nat) : Value := .func (.func F) #[] #[.pointer (some ⟨q, 0, none⟩)]
/-- What the function behind whom it may concern does: it puts one node behind the list in box q. -/
def Told (B q : Nat) (mv : Value) (md : List Md) (x : Md) (w : World) (e : Ending) (w' : World) : Prop :=
  e = .returned (.tuple #[]) ∧ ∃ mv', Row w' q #[mv'] 40 ∧ OwnM w' B mv' (md ++ [x]) ∧ Kp (fun b => b = q ∨ mv.ownBlock = some b) w w' ∧ (∀ k, mv'.ownBlock = some k → mv.ownBlock = some k ∨ w.heap.size ≤ k)
def Tells (F : Nat) : Prop := ∀ (B q : Nat) (mv : Value) (md : List Md) (x : Md) (w : World), Row w q #[mv] 40 → OwnM w B mv md → Off q mv → B ≤ w.heap.size → md.length + 1 ≤ 4398046511000 →
  Calls Tryd.prog F #[mdv x, .pointer (some ⟨q, 0, none⟩)] w (Told B q mv md x w)
theorem behind_told {B q g cap : Nat} {mv : Value} {md : List Md} {x : Md} {w W w1 : World} (b : Below w.heap.size w W) (hq : Row w q #[mv] 40) (ho : OwnM w B mv md) (hof : Off q mv)
    (h : Behind B 54 3 W mv md.length (mdc (md ++ [x])) g cap w1) :
    Told B q mv md x w (.returned (.tuple #[])) (w1.setCell ⟨q, 0, none⟩ (.slice (some ⟨g, 0, none⟩) (md.length + 1) cap)) := by
  obtain ⟨h1, h2, h3, h4⟩ := h
  have hqW : Row W q #[mv] 40 := hq.below b hq.lt
  have hq1 : Row w1 q #[mv] 40 := hqW.kept h2 (fun e => hof e.symm)
  have hgq : g ≠ q := by
    rcases h3 with h3 | h3
    · rintro rfl; exact hof h3
    · have := hqW.lt; omega
  refine ⟨rfl, _, hq1.set 0 _, ?_, ?_, fun k e => ?_⟩
  · have : w1.ownsRow B 54 3 (.slice (some ⟨g, 0, none⟩) (md.length + 1) cap) (md ++ [x]).length (mdc (md ++ [x])) := by rw [List.length_append]; exact h1
    exact ownsRow_setCell_other this (by show some g ≠ some q; intro e; cases e; exact hgq rfl) _
  · refine ((Kp.of_below b).grown h2 (fun k e _ => .inr e)).grown (row := some q) ?_ (fun k e _ => by cases e; exact .inl rfl)
    exact ⟨rfl, rfl, rfl, by simp [World.setCell], fun k hk hne => Below.heap_setCell _ _ _ _ (fun e => hne (by rw [e]))⟩
  · have : g = k := by simpa [Value.ownBlock] using e
    subst this
    rcases h3 with h3 | h3
    · exact .inl h3
    · exact .inr (Nat.le_trans b.size h3)
set_option maxRecDepth 100000 in
set_option maxHeartbeats 1000000 in
theorem pushTell : Tells 38 := by
  intro B q mv md x w hq ho hof hB hl
  have hb0 : Below w.heap.size w (w.alloc (.cells #[.int .i64 (x.1.1 : Int), .int .i64 (x.1.2 : Int), .string x.2] 54)) := (Below.refl _ w).alloc (Nat.le_refl _) _
  have r1 := Row.new w #[.int .i64 (x.1.1 : Int), .int .i64 (x.1.2 : Int), .string x.2] 54
  have c0 := r1.cell 0
  have c1 := r1.cell 1
  have c2 := r1.cell 2
  have q0 := (hq.below hb0 hq.lt).cell 0
  have HQ := Lib.hid hq
  have HO := Lib.hid ho
  have HOF := Lib.hid hof
  have HB := Lib.hid hb0
  clear hq ho hof hb0 r1
  go_enter Tryd.func38, Tryd.ntmps38
  go_wp2_with (at_builtin; go_loud (refine wpList_appM rfl (.tmp 3) (.tmp 5) rfl B mv md x (w.heap.size + 1) (by rfl) (by rfl) (World.ownsRow.alloc (own_below HO.out HB.out) _) (by rw [show w.heap.size + 1 = (w.alloc (.cells #[.int .i64 (x.1.1 : Int), .int .i64 (x.1.2 : Int), .string x.2] 54)).heap.size by simp]; exact heap_alloc_new _ _) (by simp; omega) hl ?_; intro g cap w1 h1; have HT := Lib.hid (behind_told (HB.out.alloc (by simp) _) HQ.out HO.out HOF.out h1); have h2 := h1.2.1; have qq := ((HQ.out.below HB.out HQ.out.lt).alloc (.cells #[.int .i64 (x.1.1 : Int), .int .i64 (x.1.2 : Int), .string x.2] 54)).kept h2 (fun e => HOF.out e.symm); have qc := qq.cell 0; have qf := qq.free 0; clear h1 h2 qq))
  go_end0
  exact HT.out
structure RunS (w0 : World) (F p q : Nat) (lo kk hi : Int) (st md : List Md) (hv av mv : Value) (W : World) : Prop where
  bel : Below w0.heap.size w0 W
  bp : w0.heap.size ≤ p
  bq : w0.heap.size ≤ q
  pq : p ≠ q
  row : Row W p #[.int .i64 lo, .int .i64 hi, hv, .int .i64 kk, av, clo F q] 76
  box : Row W q #[mv] 40
  oh : Strs.Own W w0.heap.size hv (st.map (·.2))
  oa : OwnA W w0.heap.size av (st.map (·.1))
  om : OwnM W w0.heap.size mv md
  hp : Off p hv
  hq : Off q hv
  ap : Off p av
  aq : Off q av
  mp : Off p mv
  mq : Off q mv
  ha : Apart hv av
  hm : Apart hv mv
  am : Apart av mv
variable {w0 : World} {F p q : Nat} {lo kk hi : Int} {st md : List Md} {hv av mv : Value} {W W' : World}
theorem RunS.below (h : RunS w0 F p q lo kk hi st md hv av mv W) (b : Below W.heap.size W W') : RunS w0 F p q lo kk hi st md hv av mv W' :=
  { h with bel := chain h.bel b, row := h.row.below b h.row.lt, box := h.box.below b h.box.lt, oh := h.oh.below b, oa := own_below h.oa b, om := own_below h.om b }
theorem RunS.told {x : Md} {e : Ending} (h : RunS w0 F p q lo kk hi st md hv av mv W) (t : Told w0.heap.size q mv md x W e W') : ∃ mv', RunS w0 F p q lo kk hi st (md ++ [x]) hv av mv' W' := by
  obtain ⟨_, mv', h1, h2, h3, h4⟩ := t
  have hk : ∀ v : Value, Off q v → Apart v mv → ∀ g, v.ownBlock = some g → ¬ (g = q ∨ mv.ownBlock = some g) := fun v hq ha g e h => by
    rcases h with rfl | h
    · exact hq e
    · exact ha g e h
  have hn : ∀ v : Value, (∀ g, v.ownBlock = some g → g < W.heap.size) → Apart v mv → Apart v mv' := fun v hl ha g e1 e2 => by
    rcases h4 g e2 with h | h
    · exact ha g e1 h
    · have := hl g e1; omega
  have hl1 := own_lt h.oh
  have hl2 := own_lt h.oa
  exact ⟨mv', { h with
    bel := h3.toBelow h.bel h.bel.size (fun k e => by rcases e with rfl | e; exact h.bq; exact own_base h.om k e)
    row := (h3.block p h.row.lt (fun e => by rcases e with e | e; exact h.pq e; exact h.mp e)).trans h.row
    box := h1
    oh := own_kp h.oh h3 (hk hv h.hq h.hm)
    oa := own_kp h.oa h3 (hk av h.aq h.am)
    om := h2
    mp := fun e => by rcases h4 p e with h5 | h5; exact h.mp h5; have := h.row.lt; omega
    mq := fun e => by rcases h4 q e with h5 | h5; exact h.mq h5; have := h.box.lt; omega
    hm := hn hv hl1 h.hm
    am := hn av hl2 h.am }⟩
theorem own_form {base E s n c m : Nat} {cs : List Value} {A : Option Addr} {w : World} (h : w.ownsRow base E s (.slice A m c) n cs) (hn : 0 < n) : ∃ g, A = some ⟨g, 0, none⟩ ∧ m = n ∧ n ≤ c := by
  rcases h.2 with ⟨_, h0⟩ | ⟨g, cap, cur, e, _, _, h3, _⟩
  · omega
  · simp only [Value.slice.injEq] at e
    exact ⟨g, e.1, e.2.1, by omega⟩
theorem RunS.pop {a : Md} {g1 g2 n1 n2 c1 c2 : Nat} (h : RunS w0 F p q lo kk hi (st ++ [a]) md (.slice (some ⟨g1, 0, none⟩) n1 c1) (.slice (some ⟨g2, 0, none⟩) n2 c2) mv W) :
    RunS w0 F p q lo kk hi st md (.slice (some ⟨g1, 0, none⟩) st.length c1) (.slice (some ⟨g2, 0, none⟩) st.length c2) mv ((W.setCell ⟨p, 4, none⟩ (.slice (some ⟨g2, 0, none⟩) st.length c2)).setCell ⟨p, 2, none⟩ (.slice (some ⟨g1, 0, none⟩) st.length c1)) := by
  have oh := h.oh
  have oa := h.oa
  rw [List.map_append] at oh oa
  have oh' := ownS_pop oh
  have oa' := ownA_pop oa
  rw [List.length_map] at oh' oa'
  have e1 : (g1 : Nat) ≠ p := fun e => h.hp (by rw [← e]; rfl)
  have e2 : (g2 : Nat) ≠ p := fun e => h.ap (by rw [← e]; rfl)
  exact { h with
    bel := (h.bel.setCell h.bp _).setCell h.bp _
    row := (h.row.set 4 _).set 2 _
    box := (h.box.far _ (Ne.symm h.pq) _).far _ (Ne.symm h.pq) _
    oh := ownsRow_setCell_other (ownsRow_setCell_other oh' (by show some g1 ≠ some p; simpa using e1) _) (by show some g1 ≠ some p; simpa using e1) _
    oa := ownsRow_setCell_other (ownsRow_setCell_other oa' (by show some g2 ≠ some p; simpa using e2) _) (by show some g2 ≠ some p; simpa using e2) _
    om := ownsRow_setCell_other (a := ⟨p, 2, none⟩) (ownsRow_setCell_other (a := ⟨p, 4, none⟩) h.om h.mp _) h.mp _ }
/-- The address has been put behind; the hash not yet. -/
structure MidS (w0 : World) (F p q : Nat) (lo kk hi : Int) (ss : List ByteArray) (md : List Md) (hv av mv : Value) (b : Nat) (cs : Array Value) (g2 n2 c2 : Nat) (xs : List Value) (W : World) : Prop where
  bel : Below w0.heap.size w0 W
  row : Row W p #[.int .i64 lo, .int .i64 hi, hv, .int .i64 kk, av, clo F q] 76
  bx : Row W b cs 52
  box : Row W q #[mv] 40
  oh : Strs.Own W w0.heap.size hv ss
  om : OwnM W w0.heap.size mv md
  oa : W.ownsRow w0.heap.size 52 2 (.slice (some ⟨g2, 0, none⟩) n2 c2) n2 xs
  gp : g2 ≠ p
  gq : g2 ≠ q
  gh : hv.ownBlock ≠ some g2
  gm : mv.ownBlock ≠ some g2
variable {wr wA wD : World} {b g1 g2 n n2 c1 c2 : Nat} {cs : Array Value} {xs ys : List Value} {ss : List ByteArray}
theorem RunS.midA (h : RunS w0 F p q lo kk hi st md hv av mv wr) (hbx : Row wr b cs 52) (hb : Off b av) (b1 : Below wr.heap.size wr W) (hA : Behind w0.heap.size 52 2 W av n xs g2 c2 wA) :
    MidS w0 F p q lo kk hi (st.map (·.2)) md hv av mv b cs g2 (n + 1) c2 xs wA := by
  obtain ⟨h1, h2, h3, h4⟩ := hA
  have hW := h.below b1
  have hne : ∀ r, Off r av → r < wr.heap.size → g2 ≠ r := fun r ho hl e => by
    rcases h3 with h5 | h5
    · exact ho (by rw [h5, e])
    · have := b1.size; omega
  have hnv : ∀ v : Value, Apart v av → (∀ k, v.ownBlock = some k → k < wr.heap.size) → v.ownBlock ≠ some g2 := fun v ha hl e => by
    rcases h3 with h5 | h5
    · exact ha _ e h5
    · have := b1.size; have := hl _ e; omega
  have hap : ∀ v : Value, Apart v av → v.ownBlock = none ∨ v.ownBlock ≠ av.ownBlock := fun v ha => by
    cases hq : v.ownBlock with
    | none => exact .inl rfl
    | some k => exact .inr fun e => ha k hq e.symm
  have hma : Apart mv av := fun k e1 e2 => h.am k e2 e1
  exact {
    bel := hW.bel.grown h2 (Nat.le_trans h.bel.size b1.size) (fun k e => own_base h.oa k e)
    row := hW.row.kept h2 (fun e => h.ap e.symm)
    bx := (hbx.below b1 hbx.lt).kept h2 (fun e => hb e.symm)
    box := hW.box.kept h2 (fun e => h.aq e.symm)
    oh := World.ownsRow.kept hW.oh h2 (hap hv h.ha)
    om := World.ownsRow.kept hW.om h2 (hap mv hma)
    oa := h1
    gp := hne p h.ap h.row.lt
    gq := hne q h.aq h.box.lt
    gh := hnv hv h.ha (own_lt h.oh)
    gm := hnv mv hma (own_lt h.om) }
theorem MidS.below (m : MidS w0 F p q lo kk hi ss md hv av mv b cs g2 n2 c2 xs W) (k : Below W.heap.size W W') : MidS w0 F p q lo kk hi ss md hv av mv b cs g2 n2 c2 xs W' :=
  { m with bel := chain m.bel k, row := m.row.below k m.row.lt, bx := m.bx.below k m.bx.lt, box := m.box.below k m.box.lt, oh := m.oh.below k, om := own_below m.om k, oa := own_below m.oa k }
theorem MidS.fin {x : Md} {hi2 : Int} (h : RunS w0 F p q lo kk hi st md hv av mv wr) (hs : wr.heap.size ≤ W.heap.size) (hbh : Off b hv) (m : MidS w0 F p q lo kk hi (st.map (·.2)) md hv av mv b cs g2 n2 c2 (ac (st.map (·.1) ++ [x.1])) W)
    (hB : Behind w0.heap.size 9 1 W hv n (sv (st.map (·.2) ++ [x.2])) g1 c1 wD) (e2 : n2 = st.length + 1) (e1 : n = st.length) :
    (Row wD p #[.int .i64 lo, .int .i64 hi, hv, .int .i64 kk, av, clo F q] 76 ∧ Row wD b cs 52) ∧
    RunS w0 F p q lo kk hi2 (st ++ [x]) md (.slice (some ⟨g1, 0, none⟩) (n + 1) c1) (.slice (some ⟨g2, 0, none⟩) n2 c2) mv
      (((wD.setCell ⟨p, 4, none⟩ (.slice (some ⟨g2, 0, none⟩) n2 c2)).setCell ⟨p, 2, none⟩ (.slice (some ⟨g1, 0, none⟩) (n + 1) c1)).setCell ⟨p, 1, none⟩ (.int .i64 hi2)) := by
  subst e1 e2
  obtain ⟨h1, h2, h3, h4⟩ := hB
  have hne : ∀ r, Off r hv → r < W.heap.size → g1 ≠ r := fun r ho hl e => by
    rcases h3 with h5 | h5
    · exact ho (by rw [h5, e])
    · omega
  have hnv : ∀ v : Value, Apart hv v → (∀ k, v.ownBlock = some k → k < W.heap.size) → v.ownBlock ≠ some g1 := fun v ha hl e => by
    rcases h3 with h5 | h5
    · exact ha _ h5 e
    · have := hl _ e; omega
  have rp := m.row.kept h2 (fun e => h.hp e.symm)
  have rq := m.box.kept h2 (fun e => h.hq e.symm)
  have gp1 := hne p h.hp m.row.lt
  have gq1 := hne q h.hq m.box.lt
  have gm1 := hnv mv h.hm (own_lt m.om)
  have g12 : g1 ≠ g2 := by
    rcases h3 with h5 | h5
    · rintro rfl; exact m.gh h5
    · have := own_lt m.oa g2 rfl; omega
  have oa1 := World.ownsRow.kept m.oa h2 (.inr (fun e => m.gh (by rw [← e]; rfl)))
  have om1 := World.ownsRow.kept m.om h2 (by
    cases hq : mv.ownBlock with
    | none => exact .inl rfl
    | some k => exact .inr fun e => h.hm k e.symm hq)
  refine ⟨⟨rp, m.bx.kept h2 (fun e => hbh e.symm)⟩, { h with
    bel := (((m.bel.grown h2 (Nat.le_trans h.bel.size hs) (fun k e => own_base h.oh k e)).setCell h.bp _).setCell h.bp _).setCell h.bp _
    row := ((rp.set 4 _).set 2 _).set 1 _
    box := ((rq.far _ (Ne.symm h.pq) _).far _ (Ne.symm h.pq) _).far _ (Ne.symm h.pq) _
    oh := ?_
    oa := ?_
    om := ownsRow_setCell_other (a := ⟨p, 1, none⟩) (ownsRow_setCell_other (a := ⟨p, 2, none⟩) (ownsRow_setCell_other (a := ⟨p, 4, none⟩) om1 h.mp _) h.mp _) h.mp _
    hp := fun e => gp1 (by simpa [Value.ownBlock] using e)
    hq := fun e => gq1 (by simpa [Value.ownBlock] using e)
    ap := fun e => m.gp (by simpa [Value.ownBlock] using e)
    aq := fun e => m.gq (by simpa [Value.ownBlock] using e)
    ha := fun k e1 e2 => by
      simp only [Value.ownBlock, Option.some.injEq] at e1 e2
      exact g12 (e1.trans e2.symm)
    hm := fun k e1 e2 => by
      simp only [Value.ownBlock, Option.some.injEq] at e1
      exact gm1 (e1 ▸ e2)
    am := fun k e1 e2 => by
      simp only [Value.ownBlock, Option.some.injEq] at e1
      exact m.gm (e1 ▸ e2) }⟩
  · have := ownsRow_setCell_other (a := ⟨p, 1, none⟩) (ownsRow_setCell_other (a := ⟨p, 2, none⟩) (ownsRow_setCell_other (a := ⟨p, 4, none⟩) h1 (by show some g1 ≠ some p; simpa using gp1) (.slice (some ⟨g2, 0, none⟩) (st.length + 1) c2)) (by show some g1 ≠ some p; simpa using gp1) (.slice (some ⟨g1, 0, none⟩) (st.length + 1) c1)) (by show some g1 ≠ some p; simpa using gp1) (.int .i64 hi2)
    unfold Strs.Own
    rw [List.map_append, List.length_append, List.length_map]
    exact this
  · have := ownsRow_setCell_other (a := ⟨p, 1, none⟩) (ownsRow_setCell_other (a := ⟨p, 2, none⟩) (ownsRow_setCell_other (a := ⟨p, 4, none⟩) oa1 (by show some g2 ≠ some p; simpa using m.gp) (.slice (some ⟨g2, 0, none⟩) (st.length + 1) c2)) (by show some g2 ≠ some p; simpa using m.gp) (.slice (some ⟨g1, 0, none⟩) (st.length + 1) c1)) (by show some g2 ≠ some p; simpa using m.gp) (.int .i64 hi2)
    unfold OwnA
    rw [List.map_append, List.length_append, List.length_map]
    exact this
theorem heap_new_at (w : World) (o : Obj) {b : Nat} (h : b = w.heap.size) : (w.alloc o).heap[b]? = some o := by subst h; exact heap_alloc_new w o
theorem heap_keep (w : World) (o o2 : Obj) {b : Nat} (h : w.heap[b]? = some o) : (w.alloc o2).heap[b]? = some o := by
  have hb : b < w.heap.size := (Array.getElem?_eq_some_iff.1 h).1
  exact (Below.heap_alloc w o2 b hb).trans h
theorem heap_grown {o : Obj} {row : Option Nat} (hg : W.grownBy W' row) (h : W.heap[b]? = some o) (hr : ∀ k, row = some k → k < b) : W'.heap[b]? = some o := by
  have hb : b < W.heap.size := (Array.getElem?_eq_some_iff.1 h).1
  exact (hg.block b hb (fun e => by have := hr b e.symm; omega)).trans h
theorem run_cut_g {t e : TypeId} {s : Nat} (hu : Tryd.prog.underlying t = some (.slice e)) (hs : (Tryd.prog.info? e).map (·.size) = some s) (W : World) (A : Option Addr) (n c h : Nat) (hc : h ≤ c) :
    (Instr.slice t (.slice A n c) none (some (.int .i64 (h : Int))) none).run Tryd.prog W = .ok (.slice A h c) W := by
  have e1 : (h : Int) ≤ c := by omega
  have hb : (Instr.sliceBounds true n c none (some (.int .i64 (h : Int))) none).run Tryd.prog W = .ok (0, h, c) W := by simp [Instr.sliceBounds, run_sliceBound, e1]
  have h0 : ∀ (a : Addr) (k : Nat), (if c = 0 then a else a.add (0 * k)) = a := fun a k => by
    split
    · rfl
    · rw [Nat.zero_mul]; simp [Addr.add]
  cases hq : Tryd.prog.info? e with
  | none => rw [hq] at hs; cases hs
  | some i =>
    cases A with
    | none => simp [Instr.slice, run_underlying hu, hb, sizeOf, typeInfo, hq]
    | some a => simp [Instr.slice, run_underlying hu, hb, sizeOf, typeInfo, hq, Addr.add]
theorem sizeAddr : (Tryd.prog.info? 52).map (·.size) = some 2 := by kernel_rfl
theorem sizeMade : (Tryd.prog.info? 54).map (·.size) = some 3 := by kernel_rfl
/-- The runs of the two appends of one element. -/
abbrev appA (W : World) (v : Value) (b : Nat) (v' : Value) (W' : World) : Prop := (Builtin.append_ #[62, 62] 62 #[v, .slice (some ⟨b, 0, none⟩) 1 1]).run Tryd.prog W = .ok v' W'
abbrev appS (W : World) (v : Value) (b : Nat) (v' : Value) (W' : World) : Prop := (Builtin.append_ #[22, 22] 22 #[v, .slice (some ⟨b, 0, none⟩) 1 1]).run Tryd.prog W = .ok v' W'
theorem run_appA {base : Nat} {v : Value} {l : List (Nat × Nat)} {y : Nat × Nat} (HO : OwnA W base v l) (hb : W.heap[b]? = some (.cells #[.int .i64 (y.1 : Int), .int .i64 (y.2 : Int)] 52 (0, 0))) (hbase : base ≤ W.heap.size) (hl : l.length + 1 ≤ 8796093022208) :
    ∃ g cap w', appA W v b (.slice (some ⟨g, 0, none⟩) (l.length + 1) cap) w' ∧ Behind base 52 2 W v l.length (ac (l ++ [y])) g cap w' := by
  obtain ⟨i, hi, hz, hsz, hby⟩ := info_parts infoAddr
  obtain ⟨g, cap, w', h0, h1, h2, h3, h4⟩ := run_append_lies W 62 62 base 52 i _ 2 16 Tryd.underlying62 hi hz hsz hby rfl (by omega) v l.length (ac l) HO ⟨b, 0, none⟩ 1 1 [.int .i64 (y.1 : Int), .int .i64 (y.2 : Int)] rfl
    (World.news_of_block (cs := #[.int .i64 (y.1 : Int), .int .i64 (y.2 : Int)]) hb) (by simp [Value.oneCell']) (by omega) (by simp only [maxLen]; omega) (by omega) hbase W.heap.size rfl
  refine ⟨g, cap, w', h0, ?_, h2, h3.imp id (fun e => by omega), h4⟩
  rw [ac_append]; exact h1
theorem run_appS {base : Nat} {v : Value} {l : List ByteArray} {y : ByteArray} (HO : Strs.Own W base v l) (hb : W.heap[b]? = some (.cells #[.string y] 9 (0, 0))) (hbase : base ≤ W.heap.size) (hl : l.length + 1 ≤ 8796093022208) :
    ∃ g cap w', appS W v b (.slice (some ⟨g, 0, none⟩) (l.length + 1) cap) w' ∧ Behind base 9 1 W v l.length (sv (l ++ [y])) g cap w' := by
  obtain ⟨i, hi, hz, hsz, hby⟩ := infoStr
  obtain ⟨g, cap, w', h0, h1, h2, h3, h4⟩ := run_append_lies W 22 22 base 9 i _ 1 16 Tryd.underlying22 hi hz hsz hby rfl (by omega) v l.length (sv l) HO ⟨b, 0, none⟩ 1 1 [.string y] rfl
    (World.news_of_block (cs := #[.string y]) hb) (by simp [Value.oneCell']) (by omega) (by simp only [maxLen]; omega) (by omega) hbase W.heap.size rfl
  refine ⟨g, cap, w', h0, ?_, h2, h3.imp id (fun e => by omega), h4⟩
  unfold sv at *; rw [List.map_append]; exact h1
/-- Both appends, the second box being there in whatever world it is there. -/
theorem two_apps {x : Md} {b1 : Nat} (f : World → World) (fb : World → Nat) (h : RunS w0 F p q lo kk hi st md hv av mv wr) (hbx : Row wr b cs 52) (hba : Off b av) (hbh : Off b hv) (hl : st.length + 1 ≤ 8796093022208) (hW : Below wr.heap.size wr W)
    (hb1 : W.heap[b1]? = some (.cells #[.int .i64 (x.1.1 : Int), .int .i64 (x.1.2 : Int)] 52 (0, 0))) (hf : ∀ wA, Below wA.heap.size wA (f wA)) (e : ∀ wA, W.grownBy wA av.ownBlock → (f wA).heap[fb wA]? = some (.cells #[.string x.2] 9 (0, 0))) :
    ∃ gA cA wA, appA W av b1 (.slice (some ⟨gA, 0, none⟩) (st.length + 1) cA) wA ∧ W.grownBy wA av.ownBlock ∧ ∃ gD cD wD, appS (f wA) hv (fb wA) (.slice (some ⟨gD, 0, none⟩) (st.length + 1) cD) wD ∧ (Row wA p #[.int .i64 lo, .int .i64 hi, hv, .int .i64 kk, av, clo F q] 76 ∧ Row wA b cs 52) ∧
      (Row wD p #[.int .i64 lo, .int .i64 hi, hv, .int .i64 kk, av, clo F q] 76 ∧ Row wD b cs 52) ∧
      ∀ hi2, RunS w0 F p q lo kk hi2 (st ++ [x]) md (.slice (some ⟨gD, 0, none⟩) (st.length + 1) cD) (.slice (some ⟨gA, 0, none⟩) (st.length + 1) cA) mv
        (((wD.setCell ⟨p, 4, none⟩ (.slice (some ⟨gA, 0, none⟩) (st.length + 1) cA)).setCell ⟨p, 2, none⟩ (.slice (some ⟨gD, 0, none⟩) (st.length + 1) cD)).setCell ⟨p, 1, none⟩ (.int .i64 hi2)) := by
  have hR := h.below hW
  obtain ⟨gA, cA, wA, r1, q1⟩ := run_appA (l := st.map (·.1)) (y := x.1) hR.oa hb1 hR.bel.size (by rw [List.length_map]; exact hl)
  have m := h.midA hbx hba hW q1
  have mf := m.below (hf wA)
  have hs : wr.heap.size ≤ (f wA).heap.size := Nat.le_trans hW.size (Nat.le_trans q1.2.1.size (hf wA).size)
  obtain ⟨gD, cD, wD, r2, q2⟩ := run_appS (l := st.map (·.2)) (y := x.2) mf.oh (e wA q1.2.1) mf.bel.size (by rw [List.length_map]; exact hl)
  have hfin := fun hi2 => MidS.fin (hi2 := hi2) h hs hbh mf q2 (by rw [List.length_map]) (by rw [List.length_map])
  simp only [List.length_map] at r1 r2 hfin
  exact ⟨gA, cA, wA, r1, q1.2.1, gD, cD, wD, r2, ⟨m.row, m.bx⟩, (hfin 0).1, fun hi2 => (hfin hi2).2⟩
theorem grown_lt {h0 : World} {k : Nat} {v : Value} (h : ∀ k, v.ownBlock = some k → k < h0.heap.size) (hk : h0.heap.size ≤ k) : ∀ j, v.ownBlock = some j → j < k := fun j e => Nat.lt_of_lt_of_le (h j e) hk
end Go.Proofs.YtahkpcbemnfllaaDoor.Comp
