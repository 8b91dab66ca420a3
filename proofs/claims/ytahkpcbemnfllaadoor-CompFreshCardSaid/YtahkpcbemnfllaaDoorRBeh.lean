/- (*Run).behind of the document's chapter 7: its walk. -/
import Derived.Test.YtahkpcbemnfllaaDoorBeh
set_option linter.unusedVariables false
set_option linter.unusedSimpArgs false
namespace Go.Proofs.YtahkpcbemnfllaaDoor.Comp
open Go.RowKit Go.Proofs.YtahkpcbemnfllaaDoor.Base Go.Proofs.YtahkpcbemnfllaaDoor.Mem Go.Proofs.YtahkpcbemnfllaaDoor.Strs Go.Proofs.YtahkpcbemnfllaaDoor.ShaDig Go.Proofs.YtahkpcbemnfllaaDoor.TreeHash Go.Proofs.YtahkpcbemnfllaaDoor.Cov
open Go.Proofs.YtahkpcbemnfllaaDoor.Lst (OwnA Adr OwnA.shape Kp own_below Lst ac ac_append ac_length infoAddr own_lt own_base own_shape own_kp)
attribute [-go_sem] Go.Builtin.append_

theorem nodeH_wid (k : Int) : nodeH (wid k : Int) = nodeH k := by
  have h1 : ∀ x, cut (wid k : Int) x = cut k x := fun x => by unfold cut; rw [wid_wid]
  funext l r; exact h1 _
theorem mrg_wid (k : Int) (r : List Md) : ∀ x, mrg (wid k : Int) r x = mrg k r x := by
  induction r with
  | nil => intro x; rfl
  | cons a r ih =>
    intro x
    have hup : upM (wid k : Int) a x = upM k a x := by unfold upM; rw [nodeH_wid]
    simp only [mrg, ih, hup]
theorem beh_wid (k : Int) (st : List Md) (x : Md) : beh (wid k : Int) st x = beh k st x := by unfold beh; rw [mrg_wid]
abbrev appM (W : World) (v : Value) (b : Nat) (v' : Value) (W' : World) : Prop := (Builtin.append_ #[40, 40] 40 #[v, .slice (some ⟨b, 0, none⟩) 1 1]).run Tryd.prog W = .ok v' W'
theorem run_appM {W : World} {base b : Nat} {v : Value} {l : List Md} {y : Md} (HO : OwnM W base v l) (hb : W.heap[b]? = some (.cells #[.int .i64 (y.1.1 : Int), .int .i64 (y.1.2 : Int), .string y.2] 54 (0, 0))) (hbase : base ≤ W.heap.size) (hl : l.length + 1 ≤ 4398046511000) :
    ∃ g cap w', appM W v b (.slice (some ⟨g, 0, none⟩) (l.length + 1) cap) w' ∧ Behind base 54 3 W v l.length (mdc (l ++ [y])) g cap w' := by
  obtain ⟨i, hi, hz, hsz, hby⟩ := info_parts infoMade
  obtain ⟨g, cap, w', h0, h1, h2, h3, h4⟩ := run_append_lies W 40 40 base 54 i _ 3 32 Tryd.underlying40 hi hz hsz hby rfl (by omega) v l.length (mdc l) HO ⟨b, 0, none⟩ 1 1 [.int .i64 (y.1.1 : Int), .int .i64 (y.1.2 : Int), .string y.2] rfl
    (World.news_of_block (cs := #[.int .i64 (y.1.1 : Int), .int .i64 (y.1.2 : Int), .string y.2]) hb) (by simp [Value.oneCell']) (by omega) (by simp only [maxLen]; omega) (by omega) hbase W.heap.size rfl
  refine ⟨g, cap, w', h0, ?_, h2, h3.imp id (fun e => by omega), h4⟩
  rw [mdc_append]; exact h1
/-- The document's run: its nodes, and those that became whole. -/
structure RunR (w0 : World) (p : Nat) (st md : List Md) (nv wv : Value) (W : World) : Prop where
  bel : Below w0.heap.size w0 W
  bp : w0.heap.size ≤ p
  row : Row W p #[nv, wv] 80
  on : OwnM W w0.heap.size nv st
  ow : OwnM W w0.heap.size wv md
  pn : Off p nv
  pw : Off p wv
  nw : Apart nv wv
variable {w0 : World} {p : Nat} {st st' md : List Md} {nv nv' wv : Value} {W W' wr : World}
theorem RunR.below (h : RunR w0 p st md nv wv W) (b : Below W.heap.size W W') : RunR w0 p st md nv wv W' :=
  { h with bel := chain h.bel b, row := h.row.below b h.row.lt, on := own_below h.on b, ow := own_below h.ow b }
abbrev boxM (y : Md) : Obj := .cells #[.int .i64 (y.1.1 : Int), .int .i64 (y.1.2 : Int), .string y.2] 54
/-- A node behind the nodes (or behind the first of them). -/
theorem RunR.appN (h : RunR w0 p st md nv wv wr) (y : Md) (ho : OwnM wr w0.heap.size nv' st') (hb : nv'.ownBlock = nv.ownBlock) (hl : st'.length + 1 ≤ 4398046511000) :
    ∃ g c wA, appM (wr.alloc (boxM y)).drew nv' wr.heap.size (.slice (some ⟨g, 0, none⟩) (st'.length + 1) c) wA ∧ Row wA p #[nv, wv] 80 ∧
      RunR w0 p (st' ++ [y]) md (.slice (some ⟨g, 0, none⟩) (st'.length + 1) c) wv (wA.setCell ⟨p, 0, none⟩ (.slice (some ⟨g, 0, none⟩) (st'.length + 1) c)) ∧
      (∀ r cs T, Row wr r cs T → Off r nv → r ≠ p → Row (wA.setCell ⟨p, 0, none⟩ (.slice (some ⟨g, 0, none⟩) (st'.length + 1) c)) r cs T) ∧ (∀ r, Off r nv → r < wr.heap.size → g ≠ r) := by
  have b1 : Below wr.heap.size wr (wr.alloc (boxM y)).drew := ((Below.refl _ wr).alloc (Nat.le_refl _) _).drew
  have hR := h.below b1
  obtain ⟨g, c, wA, e1, h1, h2, h3, h4⟩ := run_appM (y := y) (own_below ho b1) (heap_alloc_new _ _) hR.bel.size hl
  rw [hb] at h2 h3
  have hne : ∀ r, Off r nv → r < wr.heap.size → g ≠ r := fun r hr hl e => by
    rcases h3 with h5 | h5
    · exact hr (by rw [h5, e])
    · have := b1.size; omega
  have rp := hR.row.kept h2 (fun e => h.pn e.symm)
  have gp := hne p h.pn h.row.lt
  have hgw : wv.ownBlock ≠ some g := fun e => by
    rcases h3 with h5 | h5
    · exact h.nw g h5 e
    · have := own_lt h.ow g e; have := b1.size; omega
  have ow1 := World.ownsRow.kept hR.ow h2 (by
    cases hq : wv.ownBlock with
    | none => exact .inl rfl
    | some k => exact .inr fun e => h.nw k e.symm hq)
  refine ⟨g, c, wA, e1, rp, ⟨(hR.bel.grown h2 (Nat.le_trans h.bel.size b1.size) (fun k e => own_base h.on k e)).setCell h.bp _, h.bp, rp.set 0 _, ?_, ownsRow_setCell_other (a := ⟨p, 0, none⟩) ow1 h.pw _, fun e => gp (by simpa [Value.ownBlock] using e), h.pw, fun k e1 e2 => ?_⟩, fun r cs T hr ho2 hrp => ((hr.below b1 hr.lt).kept h2 (fun e => ho2 e.symm)).far _ hrp _, hne⟩
  · have : wA.ownsRow w0.heap.size 54 3 (.slice (some ⟨g, 0, none⟩) (st'.length + 1) c) (st' ++ [y]).length (mdc (st' ++ [y])) := by rw [List.length_append]; exact h1
    exact ownsRow_setCell_other (a := ⟨p, 0, none⟩) this (by show some g ≠ some p; simpa using gp) _
  · simp only [Value.ownBlock, Option.some.injEq] at e1
    exact hgw (e1 ▸ e2)
/-- A node behind those that became whole. -/
theorem RunR.appW (h : RunR w0 p st md nv wv wr) (y : Md) (hl : md.length + 1 ≤ 4398046511000) :
    ∃ g c wA, appM (wr.alloc (boxM y)).drew wv wr.heap.size (.slice (some ⟨g, 0, none⟩) (md.length + 1) c) wA ∧ Row wA p #[nv, wv] 80 ∧
      RunR w0 p st (md ++ [y]) nv (.slice (some ⟨g, 0, none⟩) (md.length + 1) c) (wA.setCell ⟨p, 1, none⟩ (.slice (some ⟨g, 0, none⟩) (md.length + 1) c)) := by
  have b1 : Below wr.heap.size wr (wr.alloc (boxM y)).drew := ((Below.refl _ wr).alloc (Nat.le_refl _) _).drew
  have hR := h.below b1
  obtain ⟨g, c, wA, e1, h1, h2, h3, h4⟩ := run_appM (y := y) hR.ow (heap_alloc_new _ _) hR.bel.size hl
  have hne : ∀ r, Off r wv → r < wr.heap.size → g ≠ r := fun r hr hl e => by
    rcases h3 with h5 | h5
    · exact hr (by rw [h5, e])
    · have := b1.size; omega
  have rp := hR.row.kept h2 (fun e => h.pw e.symm)
  have gp := hne p h.pw h.row.lt
  have hgn : nv.ownBlock ≠ some g := fun e => by
    rcases h3 with h5 | h5
    · exact h.nw g e h5
    · have := own_lt h.on g e; have := b1.size; omega
  have on1 := World.ownsRow.kept hR.on h2 (by
    cases hq : nv.ownBlock with
    | none => exact .inl rfl
    | some k => exact .inr fun e => h.nw k hq e.symm)
  refine ⟨g, c, wA, e1, rp, ⟨(hR.bel.grown h2 (Nat.le_trans h.bel.size b1.size) (fun k e => own_base h.ow k e)).setCell h.bp _, h.bp, rp.set 1 _, ownsRow_setCell_other (a := ⟨p, 1, none⟩) on1 h.pn _, ?_, h.pn, fun e => gp (by simpa [Value.ownBlock] using e), fun k e1 e2 => ?_⟩⟩
  · have : wA.ownsRow w0.heap.size 54 3 (.slice (some ⟨g, 0, none⟩) (md.length + 1) c) (md ++ [y]).length (mdc (md ++ [y])) := by rw [List.length_append]; exact h1
    exact ownsRow_setCell_other (a := ⟨p, 1, none⟩) this (by show some g ≠ some p; simpa using gp) _
  · simp only [Value.ownBlock, Option.some.injEq] at e2
    exact hgn (e2 ▸ e1)
theorem RunR.top {a x : Md} (h : RunR w0 p (st ++ [a] ++ [x]) md nv wv W) : ∃ g c, nv = .slice (some ⟨g, 0, none⟩) (st.length + 2) c ∧ st.length + 2 ≤ c ∧ OwnM W w0.heap.size (.slice (some ⟨g, 0, none⟩) st.length c) st ∧
    (W.cell? ⟨g, st.length * 3, none⟩ = some (.int .i64 (a.1.1 : Int)) ∧ W.cell? ⟨g, st.length * 3 + 1, none⟩ = some (.int .i64 (a.1.2 : Int)) ∧ W.cell? ⟨g, st.length * 3 + 2, none⟩ = some (.string a.2)) ∧
    (W.cell? ⟨g, (st.length + 1) * 3, none⟩ = some (.int .i64 (x.1.1 : Int)) ∧ W.cell? ⟨g, (st.length + 1) * 3 + 1, none⟩ = some (.int .i64 (x.1.2 : Int)) ∧ W.cell? ⟨g, (st.length + 1) * 3 + 2, none⟩ = some (.string x.2)) := by
  have on := h.on
  obtain ⟨B, c, rfl, _⟩ := own_mds on
  obtain ⟨g, rfl, _, hc⟩ := own_form on (by simp)
  have hn : (st ++ [a] ++ [x]).length = st.length + 2 := by simp
  rw [hn] at hc
  have hm : mdc (st ++ [a] ++ [x]) = mdc st ++ (mdc [a] ++ mdc [x]) := by rw [mdc_append, mdc_append, List.append_assoc]
  have key : ∀ j, j < 6 → W.cell? ⟨g, st.length * 3 + j, none⟩ = (mdc [a] ++ mdc [x])[j]? := fun j hj => by
    rw [on.cellAt _ (by omega), hm, List.getElem?_append_right (by rw [mdc_length]; omega), mdc_length, Nat.add_sub_cancel_left]
  have on' : OwnM W w0.heap.size (.slice (some ⟨g, 0, none⟩) (st ++ [a] ++ [x]).length c) (st ++ [a, x]) := by simpa using on
  refine ⟨g, c, by rw [hn], hc, ownM_pop on', ⟨key 0 (by omega), key 1 (by omega), key 2 (by omega)⟩, ?_, ?_, ?_⟩
  · rw [show (st.length + 1) * 3 = st.length * 3 + 3 by omega]; exact key 3 (by omega)
  · rw [show (st.length + 1) * 3 + 1 = st.length * 3 + 4 by omega]; exact key 4 (by omega)
  · rw [show (st.length + 1) * 3 + 2 = st.length * 3 + 5 by omega]; exact key 5 (by omega)
/-- Where the loop stands. -/
structure AtR (w0 : World) (p : Nat) (k : Int) (ST MD st md : List Md) (x : Md) (nv wv : Value) (W : World) : Prop where
  run : RunR w0 p (st ++ [x]) md nv wv W
  s1 : (beh k st x).1 = ST
  s2 : md ++ (beh k st x).2 = MD
  ok : ∀ a ∈ st, okM a
  okx : okM x
  lem : md.length + st.length ≤ 4000
set_option maxRecDepth 100000 in
set_option maxHeartbeats 4000000 in
theorem rbehind_calls (w0 : World) (p : Nat) (k : Int) (st md : List Md) (x : Md) (nv wv : Value) (w : World) (h : RunR w0 p st md nv wv w) (hT : RTab w0) (hok : ∀ a ∈ st, okM a) (hx : okM x) (hl : md.length + st.length ≤ 4000) :
    Calls Tryd.prog 42 #[.pointer (some ⟨p, 0, none⟩), .int .i64 k, mdv x] w
      (fun e w' => e = .returned (.tuple #[]) ∧ ∃ nv' wv', RunR w0 p (beh k st x).1 (md ++ (beh k st x).2) nv' wv' w') := by
  obtain ⟨ST, hST⟩ : ∃ ST, (beh k st x).1 = ST := ⟨_, rfl⟩
  obtain ⟨MD, hMD⟩ : ∃ MD, md ++ (beh k st x).2 = MD := ⟨_, rfl⟩
  rw [hST, hMD]
  have hb0 : Below w.heap.size w (w.alloc (boxM x)) := (Below.refl _ w).alloc (Nat.le_refl _) _
  have h0 := h.below hb0
  have r5 := Row.new w #[.int .i64 (x.1.1 : Int), .int .i64 (x.1.2 : Int), .string x.2] 54
  obtain ⟨g, c, wA, a1, ra, hR, _, _⟩ := h0.appN x h0.on rfl (by omega)
  have HAT : Hid (AtR w0 p k ST MD st md x _ wv _) := Lib.hid ⟨hR, hST, hMD, hok, hx, hl⟩
  have HT := Lib.hid hT
  have p0 := h0.row.cell 0
  have p1 := (h0.row.alloc (boxM x)).cell 0
  have p2 := ra.cell 0
  have p3 := ra.free 0
  have q0 := r5.cell 0
  have q1 := r5.cell 1
  have q2 := r5.cell 2
  have q3 := (r5.alloc (boxM x)).cell 0
  have q4 := (r5.alloc (boxM x)).cell 1
  have q5 := (r5.alloc (boxM x)).cell 2
  clear h hT hok hx hb0 r5 h0 hR ra hST hMD hl
  go_enter Tryd.func42, Tryd.ntmps42
  go_wp2_with fail
  obtain ⟨W0, hW0⟩ : ∃ W0, w.alloc (.cells #[.int .i64 (x.1.1 : Int), .int .i64 (x.1.2 : Int), .string x.2] 54) = W0 := ⟨_, rfl⟩
  rw [hW0] at p0 p1 q0 q1 q2 q3 q4 q5 a1 ⊢
  clear hW0
  go_region
  all_goals go_wp2
  obtain ⟨W1, hW1⟩ : ∃ W1, wA.setCell ⟨p, 0, none⟩ (.slice (some ⟨g, 0, none⟩) (st.length + 1) c) = W1 := ⟨_, rfl⟩
  rw [hW1] at HAT ⊢
  clear hW1 p0 p1 p2 p3 q0 q1 q2 q3 q4 q5 a1
  go_loopw [6, 7, 8, 9, 10, 11] (fun s6 _ _ _ _ _ wr => ∃ (j : Nat) (st md : List Md) (x : Md) (nv wv : Value), s6 = .int .i64 (j : Int) ∧ j ≤ x.1.1 ∧ Hid (AtR w0 p k ST MD st md x nv wv wr)) (fun s6 _ _ _ _ _ _ => 64 - (intOf s6).toNat)
  case atStart => exact ⟨0, st, md, x, _, wv, rfl, Nat.zero_le _, HAT⟩
  case round =>
    clear HAT
    obtain ⟨j, st, md, x, nv, wv, rfl, hj, hr⟩ := hrel
    have hx62 := hr.out.okx.1
    have r0 := hr.out.run.row.cell 0
    rcases List.eq_nil_or_concat st with rfl | ⟨st', a, rfl⟩
    · obtain ⟨B, c3, rfl, _⟩ := own_mds hr.out.run.on
      have HF : Hid (∃ nv' wv', RunR w0 p ST MD nv' wv' wr) := Lib.hid (by
        have h1 := hr.out.run
        have h2 := hr.out.s1
        have h3 := hr.out.s2
        rw [beh_nil] at h2 h3
        rw [← h2, ← h3]
        exact ⟨_, _, by simpa using h1⟩)
      have hlen : (([] : List Md) ++ [x]).length = 1 := rfl
      rw [hlen] at r0
      clear hr
      go_wp2
      go_end0
      exact ⟨rfl, HF.out⟩
    · rw [List.concat_eq_append] at hr
      obtain ⟨g, c, rfl, hc, ho, ⟨ca0, ca1, ca2⟩, ⟨cx0, cx1, cx2⟩⟩ := hr.out.run.top
      have hrb := hr.out.run.below ((Below.refl _ wr).alloc (Nat.le_refl _) (boxM a))
      have ra0 := hrb.row.cell 0
      obtain ⟨_, _, eg, _, _, _, ⟨ax0, ax1, ax2⟩⟩ := hrb.top
      cases eg
      clear hrb
      have hX1 : (⟨g, 0, none⟩ : Addr).add (st'.length * 3) = ⟨g, st'.length * 3, none⟩ := Arr.add_plain g (st'.length * 3) 0 |>.trans (by rw [Nat.zero_add])
      have hX2 : (⟨g, 0, none⟩ : Addr).add ((st'.length + 1) * 3) = ⟨g, (st'.length + 1) * 3, none⟩ := Arr.add_plain g ((st'.length + 1) * 3) 0 |>.trans (by rw [Nat.zero_add])
      have hlm := hr.out.lem
      rw [List.length_append] at hlm
      simp only [List.length_cons, List.length_nil] at hlm
      have HO := Lib.hid ho
      have hj64 : (j : Int) < 64 := by omega
      clear ho
      by_cases hp : pairB a.1 x.1 = true
      · obtain ⟨h1, h2, h3, h4⟩ := of_decide_eq_true hp
        have hao := hr.out.ok a (by simp)
        have hxo := hr.out.okx
        have hai := okM_lt hao
        have HUP := Lib.hid (okM_up (k := k) hxo hp)
        have HS : Hid ((beh k st' (upM k a x)).1 = ST ∧ md ++ [upM k a x] ++ (beh k st' (upM k a x)).2 = MD) := Lib.hid (by
          have s1 := hr.out.s1
          have s2 := hr.out.s2
          rw [beh_yes hp] at s1 s2
          exact ⟨s1, by rw [← s2]; simp⟩)
        have HOK : Hid (∀ y ∈ st', okM y) := Lib.hid (fun y hy => hr.out.ok y (by simp [hy]))
        have HLEM : Hid (md.length + 1 + st'.length ≤ 4000) := Lib.hid (by omega)
        have HRUN := Lib.hid hr.out.run
        obtain ⟨U, hU⟩ : ∃ U, U = upM k a x := ⟨_, rfl⟩
        have HU := Lib.hid hU
        have hU1 : ((U.1.1 : Nat) : Int) = (a.1.1 : Int) + 1 := by rw [hU]; show ((a.1.1 + 1 : Nat) : Int) = _; omega
        have hU2 : ((U.1.2 : Nat) : Int) = (a.1.2 : Int).tdiv 2 := by rw [hU]; rfl
        have hU3 : U.2 = nodeH k a.2 x.2 := by rw [hU]
        have HND : Hid (∀ W, Below wr.heap.size wr W → Calls Tryd.prog 55 #[.int .i64 k, .string a.2, .string x.2] W (fun e w' => e = .returned (.string U.2) ∧ Below W.heap.size W w')) :=
          Lib.hid (fun W hW => by rw [hU3]; exact (refNode_calls k a.2 x.2 (by have := hao.2.2; have := hxo.2.2; omega) W (HT.out.below (chain HRUN.out.bel hW))).mono fun e w' h => ⟨h.1, h.2⟩)
        have hUl : U.1.1 ≤ 62 := by omega
        have hUi : U.1.2 < 4611686018427387904 := by
          have e : ((U.1.2 : Nat) : Int) = ((a.1.2 / 2 : Nat) : Int) := hU2
          omega
        have hjU : j + 1 ≤ U.1.1 := by omega
        rw [← hU] at HS HUP
        clear hr hU hU3 hp
        obtain ⟨⟨al, ai⟩, ah⟩ := a
        obtain ⟨⟨xl, xi⟩, xh⟩ := x
        dsimp only at *
        subst h1 h3
        have h5 : (ai : Int).tmod 2 = 0 := by show ((ai % 2 : Nat) : Int) = 0; omega
        have h4' : (al : Int) < 62 := by omega
        obtain ⟨⟨ul, ui⟩, uh⟩ := U
        dsimp only at *
        have hq4 : IntKind.i64.wrap (ui : Int) = (ui : Int) := IntWalk.i64_in _ (by omega)
        have hq5 : IntKind.i64.wrap (ul : Int) = (ul : Int) := IntWalk.i64_in _ (by omega)
        have hU2' : (ai : Int).tdiv 2 = (ui : Int) := hU2.symm
        have hU1' : (al : Int) + 1 = (ul : Int) := hU1.symm
        clear h2 hU1 hU2 hao hxo
        have rA := (Row.new wr #[.int .i64 (al : Int), .int .i64 (ai : Int), .string ah] 54).alloc (boxM ((al, ai + 1), xh))
        have hbA : Below wr.heap.size wr ((wr.alloc (boxM ((al, ai), ah))).alloc (boxM ((al, ai + 1), xh))) := ((Below.refl _ wr).alloc (Nat.le_refl _) _).alloc (by simp) _
        go_wp2_with fail
        refine (HND.out _ hbA).mono ?_
        rintro e w1 ⟨rfl, b1⟩
        have rA1 := rA.below b1 rA.lt
        have m0 := rA1.cell 0
        have m1 := rA1.cell 1
        have hrun1 := (HRUN.out.below hbA).below b1
        have hbU : Below w1.heap.size w1 (w1.alloc (boxM ((ul, ui), uh))) := (Below.refl _ w1).alloc (Nat.le_refl _) _
        have hrun4 := hrun1.below hbU
        have rU := Row.new w1 #[.int .i64 (ul : Int), .int .i64 (ui : Int), .string uh] 54
        obtain ⟨g5, c5, w5, a5, r5, hrun5, hfar, _⟩ := hrun4.appN ((ul, ui), uh) (nv' := .slice (some ⟨g, 0, none⟩) st'.length c) (st' := st') (by
          obtain ⟨_, _, eg, _, ho, _, _⟩ := hrun4.top
          cases eg
          exact ho) rfl (by omega)
        have offU : Off w1.heap.size (.slice (some ⟨g, 0, none⟩) (st'.length + 2) c) := fun e => by have := own_lt hrun1.on _ e; omega
        have neU : w1.heap.size ≠ p := fun e => by have := hrun1.row.lt; omega
        have rU5 := hfar w1.heap.size _ _ rU offU neU
        obtain ⟨g6, c6, w6, a6, r6, hrun6⟩ := hrun5.appW ((ul, ui), uh) (by omega)
        have HRUN6 := Lib.hid hrun6
        have hcut : ∀ W, (Instr.slice 40 (.slice (some ⟨g, 0, none⟩) (st'.length + 2) c) none (some (.int .i64 (st'.length : Int))) none).run Tryd.prog W = .ok (.slice (some ⟨g, 0, none⟩) st'.length c) W := fun W => run_cut_g Tryd.underlying40 sizeMade W _ _ _ _ (by omega)
        have s0 := hrun4.row.cell 0
        have s1 := (hrun4.row.alloc (boxM ((ul, ui), uh))).cell 0
        have s2 := rU.cell 0
        have s3 := rU.cell 1
        have s4 := rU.cell 2
        have s5 := r5.cell 0
        have s6 := r5.free 0
        have t0 := hrun5.row.cell 1
        have t1 := (hrun5.row.alloc (boxM ((ul, ui), uh))).cell 1
        have t2 := rU5.cell 0
        have t3 := rU5.cell 1
        have t4 := rU5.cell 2
        have t5 := r6.cell 1
        have t6 := r6.free 1
        have hi6 : IntKind.i64.wrap (st'.length : Int) = (st'.length : Int) := IntWalk.i64_in _ (by omega)
        have i0 : (0 : Int) ≤ (st'.length : Int) := by omega
        clear rA rA1 hbA b1 hrun1 hrun4 hrun5 hrun6 rU rU5 r5 r6 hfar offU neU HND HRUN hbU ax0 ax1 ax2 ca0 ca1 ca2 cx0 cx1 cx2 ra0 r0 hX1 hX2
        go_wp2_with fail
        obtain ⟨W4, hW4⟩ : ∃ W4, w1.alloc (.cells #[.int .i64 (ul : Int), .int .i64 (ui : Int), .string uh] 54) = W4 := ⟨_, rfl⟩
        rw [hW4] at s0 s1 s2 s3 s4 a5 ⊢
        clear m0 m1
        go_region
        all_goals go_wp2
        obtain ⟨W5, hW5⟩ : ∃ W5, w5.setCell ⟨p, 0, none⟩ (.slice (some ⟨g5, 0, none⟩) (st'.length + 1) c5) = W5 := ⟨_, rfl⟩
        rw [hW5] at t0 t1 t2 t3 t4 a6 ⊢
        clear hW5 hW4 s0 s1 s2 s3 s4 s5 s6 a5
        go_region
        all_goals go_wp2
        go_roundw
        case rel =>
          refine ⟨j + 1, st', md ++ [((ul, ui), uh)], ((ul, ui), uh), _, _, by go_num, hjU, Lib.hid ⟨HRUN6.out, HS.out.1, HS.out.2, HOK.out, HUP.out, by have := HLEM.out; simp; omega⟩⟩
        case measure => simp only [intOf]; omega
      · have HF : Hid (∃ nv' wv', RunR w0 p ST MD nv' wv' wr) := Lib.hid (by
          have h1 := hr.out.run
          have h2 := hr.out.s1
          have h3 := hr.out.s2
          rw [beh_no (by simpa using hp)] at h2 h3
          rw [← h2, ← h3]
          exact ⟨_, _, by simpa using h1⟩)
        have hai := okM_lt (hr.out.ok a (by simp))
        have ha62 := (hr.out.ok a (by simp)).1
        have hxi := okM_lt hr.out.okx
        have HFB : Hid (∀ W, Below wr.heap.size wr W → ∃ nv' wv', RunR w0 p ST MD nv' wv' W) := Lib.hid (fun W hW => by obtain ⟨n1, n2, h⟩ := HF.out; exact ⟨n1, n2, h.below hW⟩)
        clear hr HF
        obtain ⟨⟨al, ai⟩, ah⟩ := a
        obtain ⟨⟨xl, xi⟩, xh⟩ := x
        dsimp only at *
        by_cases h1 : al = xl
        · subst h1
          by_cases h2 : ai % 2 = 0
          · by_cases h3 : xi = ai + 1
            · have h4 : 62 ≤ al := by
                rcases Nat.lt_or_ge al 62 with h | h
                · exact absurd (decide_eq_true ⟨rfl, h2, h3, h⟩) hp
                · exact h
              subst h3
              have h5 : (ai : Int).tmod 2 = 0 := by show ((ai % 2 : Nat) : Int) = 0; omega
              clear hp h2
              go_wp2
              refine bodyPost_ret (v := .tuple #[]) (by simp [results, Tryd.f42, go_sem]) rfl ⟨rfl, HFB.out _ (((Below.refl _ wr).alloc (Nat.le_refl _) _).alloc (by simp) _)⟩
            · have h5 : (ai : Int).tmod 2 = 0 := by show ((ai % 2 : Nat) : Int) = 0; omega
              have h6 : ((xi : Int) == (ai : Int) + 1) = false := by rw [beq_eq_false_iff_ne]; omega
              have h7 : ((xi : Int) != (ai : Int) + 1) = true := by rw [bne, h6]; rfl
              clear hp h2 h3
              go_wp2
              refine bodyPost_ret (v := .tuple #[]) (by simp [results, Tryd.f42, go_sem]) rfl ⟨rfl, HFB.out _ (((Below.refl _ wr).alloc (Nat.le_refl _) _).alloc (by simp) _)⟩
          · have h5 : (ai : Int).tmod 2 = 1 := by show ((ai % 2 : Nat) : Int) = 1; omega
            clear hp h2
            go_wp2
            refine bodyPost_ret (v := .tuple #[]) (by simp [results, Tryd.f42, go_sem]) rfl ⟨rfl, HFB.out _ (((Below.refl _ wr).alloc (Nat.le_refl _) _).alloc (by simp) _)⟩
        · have h6 : ((al : Int) == (xl : Int)) = false := by rw [beq_eq_false_iff_ne]; omega
          have h7 : ((al : Int) != (xl : Int)) = true := by rw [bne, h6]; rfl
          clear hp h1
          go_wp2
          refine bodyPost_ret (v := .tuple #[]) (by simp [results, Tryd.f42, go_sem]) rfl ⟨rfl, HFB.out _ (((Below.refl _ wr).alloc (Nat.le_refl _) _).alloc (by simp) _)⟩
end Go.Proofs.YtahkpcbemnfllaaDoor.Comp
