/- (*Run).behind of the document beside a block that stays; the document's Merge: their walks. -/
import Derived.Test.YtahkpcbemnfllaaDoorRBeh
import Derived.Test.YtahkpcbemnfllaaDoorMerge2
set_option linter.unusedVariables false
set_option linter.unusedSimpArgs false
namespace Go.Proofs.YtahkpcbemnfllaaDoor.CompK
open Go.RowKit Go.Proofs.YtahkpcbemnfllaaDoor.Base Go.Proofs.YtahkpcbemnfllaaDoor.Mem Go.Proofs.YtahkpcbemnfllaaDoor.Strs Go.Proofs.YtahkpcbemnfllaaDoor.ShaDig Go.Proofs.YtahkpcbemnfllaaDoor.TreeHash Go.Proofs.YtahkpcbemnfllaaDoor.Cov Go.Proofs.YtahkpcbemnfllaaDoor.Comp
open Go.Proofs.YtahkpcbemnfllaaDoor.Lst (OwnA Adr OwnA.shape Kp own_below Lst ac ac_append ac_length infoAddr own_lt own_base own_shape own_kp)
attribute [-go_sem] Go.Builtin.append_

/-- Block rr holds oo; it is none of the run's. -/
structure KR (rr : Nat) (oo : Obj) (p : Nat) (nv wv : Value) (W : World) : Prop where
  here : W.heap[rr]? = some oo
  rp : rr ≠ p
  rn : Off rr nv
  rw : Off rr wv
variable {rr : Nat} {oo : Obj} {w0 : World} {p : Nat} {st st' md : List Md} {nv nv' wv : Value} {W W' wr : World}
theorem KR.lt (h : KR rr oo p nv wv W) : rr < W.heap.size := (Array.getElem?_eq_some_iff.1 h.here).1
theorem KR.below (h : KR rr oo p nv wv W) (b : Below W.heap.size W W') : KR rr oo p nv wv W' := { h with here := (b.block rr h.lt).trans h.here }
/-- A node behind the nodes (or behind the first of them). -/
theorem _root_.Go.Proofs.YtahkpcbemnfllaaDoor.Comp.RunR.appNK (h : RunR w0 p st md nv wv wr) (hk : KR rr oo p nv wv wr) (y : Md) (ho : OwnM wr w0.heap.size nv' st') (hb : nv'.ownBlock = nv.ownBlock) (hl : st'.length + 1 ≤ 4398046511000) :
    ∃ g c wA, appM (wr.alloc (boxM y)).drew nv' wr.heap.size (.slice (some ⟨g, 0, none⟩) (st'.length + 1) c) wA ∧ Row wA p #[nv, wv] 80 ∧
      RunR w0 p (st' ++ [y]) md (.slice (some ⟨g, 0, none⟩) (st'.length + 1) c) wv (wA.setCell ⟨p, 0, none⟩ (.slice (some ⟨g, 0, none⟩) (st'.length + 1) c)) ∧
      (∀ r cs T, Row wr r cs T → Off r nv → r ≠ p → Row (wA.setCell ⟨p, 0, none⟩ (.slice (some ⟨g, 0, none⟩) (st'.length + 1) c)) r cs T) ∧ (∀ r, Off r nv → r < wr.heap.size → g ≠ r) ∧ KR rr oo p (.slice (some ⟨g, 0, none⟩) (st'.length + 1) c) wv (wA.setCell ⟨p, 0, none⟩ (.slice (some ⟨g, 0, none⟩) (st'.length + 1) c)) := by
  have b1 : Below wr.heap.size wr (wr.alloc (boxM y)).drew := ((Below.refl _ wr).alloc (Nat.le_refl _) _).drew
  have hR := h.below b1
  obtain ⟨g, c, wA, e1, h1, h2, h3, h4⟩ := run_appM (y := y) (own_below ho b1) (heap_alloc_new _ _) hR.bel.size hl
  rw [hb] at h2 h3
  have hne : ∀ r, Off r nv → r < wr.heap.size → g ≠ r := fun r hr hl e => by
    rcases h3 with h5 | h5
    · exact hr (by rw [h5, e])
    · have := b1.size; omega
  have rp := hR.row.kept h2 (fun e => h.pn e.symm)
  have gp := hne p h.pn h.row.lt
  have hgw : wv.ownBlock ≠ some g := fun e => by
    rcases h3 with h5 | h5
    · exact h.nw g h5 e
    · have := own_lt h.ow g e; have := b1.size; omega
  have ow1 := World.ownsRow.kept hR.ow h2 (by
    cases hq : wv.ownBlock with
    | none => exact .inl rfl
    | some k => exact .inr fun e => h.nw k e.symm hq)
  refine ⟨g, c, wA, e1, rp, ⟨(hR.bel.grown h2 (Nat.le_trans h.bel.size b1.size) (fun k e => own_base h.on k e)).setCell h.bp _, h.bp, rp.set 0 _, ?_, ownsRow_setCell_other (a := ⟨p, 0, none⟩) ow1 h.pw _, fun e => gp (by simpa [Value.ownBlock] using e), h.pw, fun k e1 e2 => ?_⟩, fun r cs T hr ho2 hrp => ((hr.below b1 hr.lt).kept h2 (fun e => ho2 e.symm)).far _ hrp _, hne, { here := (Below.heap_setCell _ ⟨p, 0, none⟩ _ rr hk.rp).trans ((h2.block rr (Nat.lt_of_lt_of_le hk.lt b1.size) (fun e => hk.rn e.symm)).trans ((b1.block rr hk.lt).trans hk.here)), rp := hk.rp, rn := fun e => hne rr hk.rn hk.lt (by simpa [Value.ownBlock] using e), rw := hk.rw }⟩
  · have : wA.ownsRow w0.heap.size 54 3 (.slice (some ⟨g, 0, none⟩) (st'.length + 1) c) (st' ++ [y]).length (mdc (st' ++ [y])) := by rw [List.length_append]; exact h1
    exact ownsRow_setCell_other (a := ⟨p, 0, none⟩) this (by show some g ≠ some p; simpa using gp) _
  · simp only [Value.ownBlock, Option.some.injEq] at e1
    exact hgw (e1 ▸ e2)
/-- A node behind those that became whole. -/
theorem _root_.Go.Proofs.YtahkpcbemnfllaaDoor.Comp.RunR.appWK (h : RunR w0 p st md nv wv wr) (hk : KR rr oo p nv wv wr) (y : Md) (hl : md.length + 1 ≤ 4398046511000) :
    ∃ g c wA, appM (wr.alloc (boxM y)).drew wv wr.heap.size (.slice (some ⟨g, 0, none⟩) (md.length + 1) c) wA ∧ Row wA p #[nv, wv] 80 ∧
      RunR w0 p st (md ++ [y]) nv (.slice (some ⟨g, 0, none⟩) (md.length + 1) c) (wA.setCell ⟨p, 1, none⟩ (.slice (some ⟨g, 0, none⟩) (md.length + 1) c)) ∧ KR rr oo p nv (.slice (some ⟨g, 0, none⟩) (md.length + 1) c) (wA.setCell ⟨p, 1, none⟩ (.slice (some ⟨g, 0, none⟩) (md.length + 1) c)) := by
  have b1 : Below wr.heap.size wr (wr.alloc (boxM y)).drew := ((Below.refl _ wr).alloc (Nat.le_refl _) _).drew
  have hR := h.below b1
  obtain ⟨g, c, wA, e1, h1, h2, h3, h4⟩ := run_appM (y := y) hR.ow (heap_alloc_new _ _) hR.bel.size hl
  have hne : ∀ r, Off r wv → r < wr.heap.size → g ≠ r := fun r hr hl e => by
    rcases h3 with h5 | h5
    · exact hr (by rw [h5, e])
    · have := b1.size; omega
  have rp := hR.row.kept h2 (fun e => h.pw e.symm)
  have gp := hne p h.pw h.row.lt
  have hgn : nv.ownBlock ≠ some g := fun e => by
    rcases h3 with h5 | h5
    · exact h.nw g e h5
    · have := own_lt h.on g e; have := b1.size; omega
  have on1 := World.ownsRow.kept hR.on h2 (by
    cases hq : nv.ownBlock with
    | none => exact .inl rfl
    | some k => exact .inr fun e => h.nw k hq e.symm)
  refine ⟨g, c, wA, e1, rp, ⟨(hR.bel.grown h2 (Nat.le_trans h.bel.size b1.size) (fun k e => own_base h.ow k e)).setCell h.bp _, h.bp, rp.set 1 _, ownsRow_setCell_other (a := ⟨p, 1, none⟩) on1 h.pn _, ?_, h.pn, fun e => gp (by simpa [Value.ownBlock] using e), fun k e1 e2 => ?_⟩, { here := (Below.heap_setCell _ ⟨p, 1, none⟩ _ rr hk.rp).trans ((h2.block rr (Nat.lt_of_lt_of_le hk.lt b1.size) (fun e => hk.rw e.symm)).trans ((b1.block rr hk.lt).trans hk.here)), rp := hk.rp, rn := hk.rn, rw := fun e => hne rr hk.rw hk.lt (by simpa [Value.ownBlock] using e) }⟩
  · have : wA.ownsRow w0.heap.size 54 3 (.slice (some ⟨g, 0, none⟩) (md.length + 1) c) (md ++ [y]).length (mdc (md ++ [y])) := by rw [List.length_append]; exact h1
    exact ownsRow_setCell_other (a := ⟨p, 1, none⟩) this (by show some g ≠ some p; simpa using gp) _
  · simp only [Value.ownBlock, Option.some.injEq] at e2
    exact hgn (e2 ▸ e1)
/-- Where the loop stands. -/
structure AtR (rr : Nat) (oo : Obj) (w0 : World) (p : Nat) (k : Int) (ST MD st md : List Md) (x : Md) (nv wv : Value) (W : World) : Prop where
  run : RunR w0 p (st ++ [x]) md nv wv W
  s1 : (beh k st x).1 = ST
  s2 : md ++ (beh k st x).2 = MD
  ok : ∀ a ∈ st, okM a
  okx : okM x
  lem : md.length + st.length ≤ 4000
  kx : KR rr oo p nv wv W
set_option maxRecDepth 100000 in
set_option maxHeartbeats 4000000 in
theorem rbehind_callsK (rr : Nat) (oo : Obj) (w0 : World) (p : Nat) (k : Int) (st md : List Md) (x : Md) (nv wv : Value) (w : World) (h : RunR w0 p st md nv wv w) (hk : KR rr oo p nv wv w) (hT : RTab w0) (hok : ∀ a ∈ st, okM a) (hx : okM x) (hl : md.length + st.length ≤ 4000) :
    Calls Tryd.prog 42 #[.pointer (some ⟨p, 0, none⟩), .int .i64 k, mdv x] w
      (fun e w' => e = .returned (.tuple #[]) ∧ ∃ nv' wv', RunR w0 p (beh k st x).1 (md ++ (beh k st x).2) nv' wv' w' ∧ KR rr oo p nv' wv' w') := by
  obtain ⟨ST, hST⟩ : ∃ ST, (beh k st x).1 = ST := ⟨_, rfl⟩
  obtain ⟨MD, hMD⟩ : ∃ MD, md ++ (beh k st x).2 = MD := ⟨_, rfl⟩
  rw [hST, hMD]
  have hb0 : Below w.heap.size w (w.alloc (boxM x)) := (Below.refl _ w).alloc (Nat.le_refl _) _
  have h0 := h.below hb0
  have r5 := Row.new w #[.int .i64 (x.1.1 : Int), .int .i64 (x.1.2 : Int), .string x.2] 54
  obtain ⟨g, c, wA, a1, ra, hR, _, _, hK⟩ := h0.appNK (hk.below hb0) x h0.on rfl (by omega)
  have HAT : Hid (AtR rr oo w0 p k ST MD st md x _ wv _) := Lib.hid ⟨hR, hST, hMD, hok, hx, hl, hK⟩
  have HT := Lib.hid hT
  have p0 := h0.row.cell 0
  have p1 := (h0.row.alloc (boxM x)).cell 0
  have p2 := ra.cell 0
  have p3 := ra.free 0
  have q0 := r5.cell 0
  have q1 := r5.cell 1
  have q2 := r5.cell 2
  have q3 := (r5.alloc (boxM x)).cell 0
  have q4 := (r5.alloc (boxM x)).cell 1
  have q5 := (r5.alloc (boxM x)).cell 2
  clear h hT hok hx hb0 r5 h0 hR ra hK hk hST hMD hl
  go_enter Tryd.func42, Tryd.ntmps42
  go_wp2_with fail
  obtain ⟨W0, hW0⟩ : ∃ W0, w.alloc (.cells #[.int .i64 (x.1.1 : Int), .int .i64 (x.1.2 : Int), .string x.2] 54) = W0 := ⟨_, rfl⟩
  rw [hW0] at p0 p1 q0 q1 q2 q3 q4 q5 a1 ⊢
  clear hW0
  go_region
  all_goals go_wp2
  obtain ⟨W1, hW1⟩ : ∃ W1, wA.setCell ⟨p, 0, none⟩ (.slice (some ⟨g, 0, none⟩) (st.length + 1) c) = W1 := ⟨_, rfl⟩
  rw [hW1] at HAT ⊢
  clear hW1 p0 p1 p2 p3 q0 q1 q2 q3 q4 q5 a1
  go_loopw [6, 7, 8, 9, 10, 11] (fun s6 _ _ _ _ _ wr => ∃ (j : Nat) (st md : List Md) (x : Md) (nv wv : Value), s6 = .int .i64 (j : Int) ∧ j ≤ x.1.1 ∧ Hid (AtR rr oo w0 p k ST MD st md x nv wv wr)) (fun s6 _ _ _ _ _ _ => 64 - (intOf s6).toNat)
  case atStart => exact ⟨0, st, md, x, _, wv, rfl, Nat.zero_le _, HAT⟩
  case round =>
    clear HAT
    obtain ⟨j, st, md, x, nv, wv, rfl, hj, hr⟩ := hrel
    have hx62 := hr.out.okx.1
    have r0 := hr.out.run.row.cell 0
    rcases List.eq_nil_or_concat st with rfl | ⟨st', a, rfl⟩
    · obtain ⟨B, c3, rfl, _⟩ := own_mds hr.out.run.on
      have HF : Hid (∃ nv' wv', RunR w0 p ST MD nv' wv' wr ∧ KR rr oo p nv' wv' wr) := Lib.hid (by
        have h1 := hr.out.run
        have h2 := hr.out.s1
        have h3 := hr.out.s2
        rw [beh_nil] at h2 h3
        rw [← h2, ← h3]
        exact ⟨_, _, by simpa using h1, hr.out.kx⟩)
      have hlen : (([] : List Md) ++ [x]).length = 1 := rfl
      rw [hlen] at r0
      clear hr
      go_wp2
      go_end0
      exact ⟨rfl, HF.out⟩
    · rw [List.concat_eq_append] at hr
      obtain ⟨g, c, rfl, hc, ho, ⟨ca0, ca1, ca2⟩, ⟨cx0, cx1, cx2⟩⟩ := hr.out.run.top
      have hrb := hr.out.run.below ((Below.refl _ wr).alloc (Nat.le_refl _) (boxM a))
      have ra0 := hrb.row.cell 0
      obtain ⟨_, _, eg, _, _, _, ⟨ax0, ax1, ax2⟩⟩ := hrb.top
      cases eg
      clear hrb
      have hX1 : (⟨g, 0, none⟩ : Addr).add (st'.length * 3) = ⟨g, st'.length * 3, none⟩ := Arr.add_plain g (st'.length * 3) 0 |>.trans (by rw [Nat.zero_add])
      have hX2 : (⟨g, 0, none⟩ : Addr).add ((st'.length + 1) * 3) = ⟨g, (st'.length + 1) * 3, none⟩ := Arr.add_plain g ((st'.length + 1) * 3) 0 |>.trans (by rw [Nat.zero_add])
      have hlm := hr.out.lem
      rw [List.length_append] at hlm
      simp only [List.length_cons, List.length_nil] at hlm
      have HO := Lib.hid ho
      have hj64 : (j : Int) < 64 := by omega
      clear ho
      by_cases hp : pairB a.1 x.1 = true
      · obtain ⟨h1, h2, h3, h4⟩ := of_decide_eq_true hp
        have hao := hr.out.ok a (by simp)
        have hxo := hr.out.okx
        have hai := okM_lt hao
        have HUP := Lib.hid (okM_up (k := k) hxo hp)
        have HS : Hid ((beh k st' (upM k a x)).1 = ST ∧ md ++ [upM k a x] ++ (beh k st' (upM k a x)).2 = MD) := Lib.hid (by
          have s1 := hr.out.s1
          have s2 := hr.out.s2
          rw [beh_yes hp] at s1 s2
          exact ⟨s1, by rw [← s2]; simp⟩)
        have HOK : Hid (∀ y ∈ st', okM y) := Lib.hid (fun y hy => hr.out.ok y (by simp [hy]))
        have HLEM : Hid (md.length + 1 + st'.length ≤ 4000) := Lib.hid (by omega)
        have HRUN := Lib.hid hr.out.run
        have HKX := Lib.hid hr.out.kx
        obtain ⟨U, hU⟩ : ∃ U, U = upM k a x := ⟨_, rfl⟩
        have HU := Lib.hid hU
        have hU1 : ((U.1.1 : Nat) : Int) = (a.1.1 : Int) + 1 := by rw [hU]; show ((a.1.1 + 1 : Nat) : Int) = _; omega
        have hU2 : ((U.1.2 : Nat) : Int) = (a.1.2 : Int).tdiv 2 := by rw [hU]; rfl
        have hU3 : U.2 = nodeH k a.2 x.2 := by rw [hU]
        have HND : Hid (∀ W, Below wr.heap.size wr W → Calls Tryd.prog 55 #[.int .i64 k, .string a.2, .string x.2] W (fun e w' => e = .returned (.string U.2) ∧ Below W.heap.size W w')) :=
          Lib.hid (fun W hW => by rw [hU3]; exact (refNode_calls k a.2 x.2 (by have := hao.2.2; have := hxo.2.2; omega) W (HT.out.below (chain HRUN.out.bel hW))).mono fun e w' h => ⟨h.1, h.2⟩)
        have hUl : U.1.1 ≤ 62 := by omega
        have hUi : U.1.2 < 4611686018427387904 := by
          have e : ((U.1.2 : Nat) : Int) = ((a.1.2 / 2 : Nat) : Int) := hU2
          omega
        have hjU : j + 1 ≤ U.1.1 := by omega
        rw [← hU] at HS HUP
        clear hr hU hU3 hp
        obtain ⟨⟨al, ai⟩, ah⟩ := a
        obtain ⟨⟨xl, xi⟩, xh⟩ := x
        dsimp only at *
        subst h1 h3
        have h5 : (ai : Int).tmod 2 = 0 := by show ((ai % 2 : Nat) : Int) = 0; omega
        have h4' : (al : Int) < 62 := by omega
        obtain ⟨⟨ul, ui⟩, uh⟩ := U
        dsimp only at *
        have hq4 : IntKind.i64.wrap (ui : Int) = (ui : Int) := IntWalk.i64_in _ (by omega)
        have hq5 : IntKind.i64.wrap (ul : Int) = (ul : Int) := IntWalk.i64_in _ (by omega)
        have hU2' : (ai : Int).tdiv 2 = (ui : Int) := hU2.symm
        have hU1' : (al : Int) + 1 = (ul : Int) := hU1.symm
        clear h2 hU1 hU2 hao hxo
        have rA := (Row.new wr #[.int .i64 (al : Int), .int .i64 (ai : Int), .string ah] 54).alloc (boxM ((al, ai + 1), xh))
        have hbA : Below wr.heap.size wr ((wr.alloc (boxM ((al, ai), ah))).alloc (boxM ((al, ai + 1), xh))) := ((Below.refl _ wr).alloc (Nat.le_refl _) _).alloc (by simp) _
        go_wp2_with fail
        refine (HND.out _ hbA).mono ?_
        rintro e w1 ⟨rfl, b1⟩
        have rA1 := rA.below b1 rA.lt
        have m0 := rA1.cell 0
        have m1 := rA1.cell 1
        have hrun1 := (HRUN.out.below hbA).below b1
        have hbU : Below w1.heap.size w1 (w1.alloc (boxM ((ul, ui), uh))) := (Below.refl _ w1).alloc (Nat.le_refl _) _
        have hrun4 := hrun1.below hbU
        have rU := Row.new w1 #[.int .i64 (ul : Int), .int .i64 (ui : Int), .string uh] 54
        obtain ⟨g5, c5, w5, a5, r5, hrun5, hfar, _, hk5⟩ := hrun4.appNK (((HKX.out.below hbA).below b1).below hbU) ((ul, ui), uh) (nv' := .slice (some ⟨g, 0, none⟩) st'.length c) (st' := st') (by
          obtain ⟨_, _, eg, _, ho, _, _⟩ := hrun4.top
          cases eg
          exact ho) rfl (by omega)
        have offU : Off w1.heap.size (.slice (some ⟨g, 0, none⟩) (st'.length + 2) c) := fun e => by have := own_lt hrun1.on _ e; omega
        have neU : w1.heap.size ≠ p := fun e => by have := hrun1.row.lt; omega
        have rU5 := hfar w1.heap.size _ _ rU offU neU
        obtain ⟨g6, c6, w6, a6, r6, hrun6, hk6⟩ := hrun5.appWK hk5 ((ul, ui), uh) (by omega)
        have HRUN6 := Lib.hid hrun6
        have HK6 := Lib.hid hk6
        clear hk5 hk6
        have hcut : ∀ W, (Instr.slice 40 (.slice (some ⟨g, 0, none⟩) (st'.length + 2) c) none (some (.int .i64 (st'.length : Int))) none).run Tryd.prog W = .ok (.slice (some ⟨g, 0, none⟩) st'.length c) W := fun W => run_cut_g Tryd.underlying40 sizeMade W _ _ _ _ (by omega)
        have s0 := hrun4.row.cell 0
        have s1 := (hrun4.row.alloc (boxM ((ul, ui), uh))).cell 0
        have s2 := rU.cell 0
        have s3 := rU.cell 1
        have s4 := rU.cell 2
        have s5 := r5.cell 0
        have s6 := r5.free 0
        have t0 := hrun5.row.cell 1
        have t1 := (hrun5.row.alloc (boxM ((ul, ui), uh))).cell 1
        have t2 := rU5.cell 0
        have t3 := rU5.cell 1
        have t4 := rU5.cell 2
        have t5 := r6.cell 1
        have t6 := r6.free 1
        have hi6 : IntKind.i64.wrap (st'.length : Int) = (st'.length : Int) := IntWalk.i64_in _ (by omega)
        have i0 : (0 : Int) ≤ (st'.length : Int) := by omega
        clear rA rA1 hbA b1 hrun1 hrun4 hrun5 hrun6 rU rU5 r5 r6 hfar offU neU HND HRUN hbU ax0 ax1 ax2 ca0 ca1 ca2 cx0 cx1 cx2 ra0 r0 hX1 hX2
        go_wp2_with fail
        obtain ⟨W4, hW4⟩ : ∃ W4, w1.alloc (.cells #[.int .i64 (ul : Int), .int .i64 (ui : Int), .string uh] 54) = W4 := ⟨_, rfl⟩
        rw [hW4] at s0 s1 s2 s3 s4 a5 ⊢
        clear m0 m1
        go_region
        all_goals go_wp2
        obtain ⟨W5, hW5⟩ : ∃ W5, w5.setCell ⟨p, 0, none⟩ (.slice (some ⟨g5, 0, none⟩) (st'.length + 1) c5) = W5 := ⟨_, rfl⟩
        rw [hW5] at t0 t1 t2 t3 t4 a6 ⊢
        clear hW5 hW4 s0 s1 s2 s3 s4 s5 s6 a5
        go_region
        all_goals go_wp2
        go_roundw
        case rel =>
          refine ⟨j + 1, st', md ++ [((ul, ui), uh)], ((ul, ui), uh), _, _, by go_num, hjU, Lib.hid ⟨HRUN6.out, HS.out.1, HS.out.2, HOK.out, HUP.out, by have := HLEM.out; simp; omega, HK6.out⟩⟩
        case measure => simp only [intOf]; omega
      · have HF : Hid (∃ nv' wv', RunR w0 p ST MD nv' wv' wr ∧ KR rr oo p nv' wv' wr) := Lib.hid (by
          have h1 := hr.out.run
          have h2 := hr.out.s1
          have h3 := hr.out.s2
          rw [beh_no (by simpa using hp)] at h2 h3
          rw [← h2, ← h3]
          exact ⟨_, _, by simpa using h1, hr.out.kx⟩)
        have hai := okM_lt (hr.out.ok a (by simp))
        have ha62 := (hr.out.ok a (by simp)).1
        have hxi := okM_lt hr.out.okx
        have HFB : Hid (∀ W, Below wr.heap.size wr W → ∃ nv' wv', RunR w0 p ST MD nv' wv' W ∧ KR rr oo p nv' wv' W) := Lib.hid (fun W hW => by obtain ⟨n1, n2, h, h'⟩ := HF.out; exact ⟨n1, n2, h.below hW, h'.below hW⟩)
        clear hr HF
        obtain ⟨⟨al, ai⟩, ah⟩ := a
        obtain ⟨⟨xl, xi⟩, xh⟩ := x
        dsimp only at *
        by_cases h1 : al = xl
        · subst h1
          by_cases h2 : ai % 2 = 0
          · by_cases h3 : xi = ai + 1
            · have h4 : 62 ≤ al := by
                rcases Nat.lt_or_ge al 62 with h | h
                · exact absurd (decide_eq_true ⟨rfl, h2, h3, h⟩) hp
                · exact h
              subst h3
              have h5 : (ai : Int).tmod 2 = 0 := by show ((ai % 2 : Nat) : Int) = 0; omega
              clear hp h2
              go_wp2
              refine bodyPost_ret (v := .tuple #[]) (by simp [results, Tryd.f42, go_sem]) rfl ⟨rfl, HFB.out _ (((Below.refl _ wr).alloc (Nat.le_refl _) _).alloc (by simp) _)⟩
            · have h5 : (ai : Int).tmod 2 = 0 := by show ((ai % 2 : Nat) : Int) = 0; omega
              have h6 : ((xi : Int) == (ai : Int) + 1) = false := by rw [beq_eq_false_iff_ne]; omega
              have h7 : ((xi : Int) != (ai : Int) + 1) = true := by rw [bne, h6]; rfl
              clear hp h2 h3
              go_wp2
              refine bodyPost_ret (v := .tuple #[]) (by simp [results, Tryd.f42, go_sem]) rfl ⟨rfl, HFB.out _ (((Below.refl _ wr).alloc (Nat.le_refl _) _).alloc (by simp) _)⟩
          · have h5 : (ai : Int).tmod 2 = 1 := by show ((ai % 2 : Nat) : Int) = 1; omega
            clear hp h2
            go_wp2
            refine bodyPost_ret (v := .tuple #[]) (by simp [results, Tryd.f42, go_sem]) rfl ⟨rfl, HFB.out _ (((Below.refl _ wr).alloc (Nat.le_refl _) _).alloc (by simp) _)⟩
        · have h6 : ((al : Int) == (xl : Int)) = false := by rw [beq_eq_false_iff_ne]; omega
          have h7 : ((al : Int) != (xl : Int)) = true := by rw [bne, h6]; rfl
          clear hp h1
          go_wp2
          refine bodyPost_ret (v := .tuple #[]) (by simp [results, Tryd.f42, go_sem]) rfl ⟨rfl, HFB.out _ (((Below.refl _ wr).alloc (Nat.le_refl _) _).alloc (by simp) _)⟩
end Go.Proofs.YtahkpcbemnfllaaDoor.CompK
namespace Go.Proofs.YtahkpcbemnfllaaDoor.Comp
open Go.RowKit Go.Proofs.YtahkpcbemnfllaaDoor.Base Go.Proofs.YtahkpcbemnfllaaDoor.Mem Go.Proofs.YtahkpcbemnfllaaDoor.Strs Go.Proofs.YtahkpcbemnfllaaDoor.ShaDig Go.Proofs.YtahkpcbemnfllaaDoor.TreeHash Go.Proofs.YtahkpcbemnfllaaDoor.Cov Go.Proofs.YtahkpcbemnfllaaDoor.CompK
open Go.Proofs.YtahkpcbemnfllaaDoor.Lst (OwnA Adr OwnA.shape Kp own_below Lst ac ac_append ac_length infoAddr own_lt own_base own_shape own_kp)

theorem rmerge_end {w w1 w3 W5 : World} {lo hi1 : Int} {vh wv : Value} {hs : List ByteArray} {md : List Md} (hB1 : Below w.heap.size w w1) (hr : w.heap.size + 1 + 1 < w1.heap.size) (hB5 : Below w1.heap.size w1 W5)
    (oh : Strs.Own W5 w3.heap.size vh hs) (om : OwnM W5 w1.heap.size wv md) (hwl : ∀ k, wv.ownBlock = some k → k < w3.heap.size) (h13 : w1.heap.size ≤ w3.heap.size) (a b c : Value) :
    Ans lo hi1 0 hs md w (.returned (.tuple #[.agg #[.int .i64 lo, .int .i64 hi1, vh], wv, .int .i64 0])) (((W5.setCell ⟨w.heap.size + 1 + 1, 0, none⟩ a).setCell ⟨w.heap.size + 1 + 1, 1, none⟩ b).setCell ⟨w.heap.size + 1 + 1, 2, none⟩ c).drew := by
  have hne : ∀ (v : Value), (∀ j, v.ownBlock = some j → w1.heap.size ≤ j) → ∀ i : Nat, v.ownBlock ≠ some (⟨w.heap.size + 1 + 1, i, none⟩ : Addr).block := fun v hv i e => absurd (show w1.heap.size ≤ w.heap.size + 1 + 1 from hv _ e) (by omega)
  have b0 : ∀ i : Nat, w.heap.size ≤ (⟨w.heap.size + 1 + 1, i, none⟩ : Addr).block := fun _ => by show w.heap.size ≤ w.heap.size + 1 + 1; omega
  have hs1 := hB1.size
  have oh' : ∀ j, vh.ownBlock = some j → w1.heap.size ≤ j := fun j e => by have := own_base oh j e; omega
  refine ⟨_, _, rfl, ?_, ?_, fun k e1 e2 => by have := own_base oh k e1; have := hwl k e2; omega, ?_⟩
  · exact Lst.own_down (ownsRow_setCell_other (ownsRow_setCell_other (ownsRow_setCell_other oh (hne _ oh' 0) _) (hne _ oh' 1) _) (hne _ oh' 2) _) (by omega)
  · exact Lst.own_down (ownsRow_setCell_other (ownsRow_setCell_other (ownsRow_setCell_other om (hne _ (own_base om) 0) _) (hne _ (own_base om) 1) _) (hne _ (own_base om) 2) _) hs1
  · exact ((((chain hB1 hB5).setCell (b0 0) _).setCell (b0 1) _).setCell (b0 2) _).drew
/-- What keeps a list of nodes: its one block. -/
theorem own_keepM {w : World} {base : Nat} {B : Option Addr} {d : Nat} {l : List Md} (h : OwnM w base (.slice B l.length d) l) : l = [] ∨ ∃ r o, base ≤ r ∧ w.heap[r]? = some o ∧ ∀ W : World, W.heap[r]? = some o → Mds W B l.length l := by
  by_cases hl : l = []
  · exact .inl hl
  · right
    have hp : 0 < l.length := List.length_pos_iff.2 hl
    rcases h.2 with ⟨_, h0⟩ | ⟨g, cap, cur, e, hb, hh, hrest⟩
    · omega
    · simp only [Value.slice.injEq] at e
      obtain ⟨rfl, _, rfl⟩ := e
      refine ⟨g, _, hb, hh, fun W hW => ?_⟩
      obtain ⟨_, _, e2, _, ha, _⟩ := own_mds (w := W) (base := base) (v := .slice (some ⟨g, 0, none⟩) l.length d) (l := l) ⟨h.1, .inr ⟨g, d, cur, rfl, hb, hW, hrest⟩⟩
      cases e2
      exact ha
set_option maxRecDepth 100000 in
set_option maxHeartbeats 4000000 in
theorem rmerge_calls (k alo ahi blo bhi : Int) (A B : Option Addr) (n c m d : Nat) (aa bb : List ByteArray) (w : World) (hS1 : Strs w A n aa) (hS2 : Strs w B m bb) (hn : n ≤ 8796093022208) (hm : m ≤ 8796093022208) (hT : RTab w) :
    Calls Tryd.prog 24 #[.int .i64 k, fv alo ahi A n c, fv blo bhi B m d] w (MergeA k alo ahi aa blo bhi bb w) := by
  have h0 := B3.new w #[.int .i64 alo, .int .i64 ahi, .slice A n c] #[.int .i64 blo, .int .i64 bhi, .slice B m d] #[.int .i64 0, .int .i64 0, .slice none 0 0]
  have HS1 := Lib.hid hS1
  have HS2 := Lib.hid hS2
  have HT := Lib.hid hT
  have HCA := Lib.hid (fun W (hW : Below w.heap.size w W) => rcheck_calls k alo ahi A n c aa W (hS1.below hW) hn)
  have HCB := Lib.hid (fun W (hW : Below w.heap.size w W) => rcheck_calls k blo bhi B m d bb W (hS2.below hW) hm)
  have a0 := h0.ra.cell 0
  have a1 := h0.ra.cell 1
  have a2 := h0.ra.cell 2
  have b0 := h0.rb.cell 0
  have b1 := h0.rb.cell 1
  have b2 := h0.rb.cell 2
  have hl1 := Lib.hid hS1.len
  have hl2 := Lib.hid hS2.len
  have HBX := Lib.hid h0
  clear hS1 hS2 hT h0
  go_enter Tryd.func24, Tryd.ntmps24
  go_wp2_with fail
  refine (HCA.out _ HBX.out.bel).mono ?_
  rintro e w1 ⟨rfl, bw1⟩
  have HBX1 := Lib.hid (HBX.out.call bw1)
  clear bw1 a0 a1 a2 b0 b1 b2 HBX
  by_cases hz : chk k alo ahi aa = 0
  · rw [hz]
    have HZA := Lib.hid hz
    have b0 := HBX1.out.rb.cell 0
    have b1 := HBX1.out.rb.cell 1
    have b2 := HBX1.out.rb.cell 2
    clear hz
    go_wp2_with fail
    refine (HCB.out _ HBX1.out.bel).mono ?_
    rintro e w2 ⟨rfl, bw2⟩
    have HBX := Lib.hid (HBX1.out.call bw2)
    clear bw2 HBX1 b0 b1 b2
    by_cases hz : chk k blo bhi bb = 0
    · rw [hz]
      have HZB := Lib.hid hz
      clear hz
      have p1 := HBX.out.ra.cell 1
      have p2 := HBX.out.rb.cell 0
      by_cases hab : ahi = blo
      · subst hab
        obtain ⟨e1, e2, e3, e4, e5, e6⟩ := chk_ok HZA.out
        obtain ⟨g1, g2, g3, g4, g5, g6⟩ := chk_ok HZB.out
        have hcn : (covL alo ahi).length = n := by rw [e2, hl1.out]
        have hcm : (covL ahi bhi).length = m := by rw [g2, hl2.out]
        have HOP := Lib.hid (open_calls alo ahi A n c aa w2 (HS1.out.below HBX.out.bel) hcn)
        have HOQ := Lib.hid (fun W (hW : Below w2.heap.size w2 W) => open_calls ahi bhi B m d bb W (HS2.out.below (chain HBX.out.bel hW)) hcm)
        have z0 := HBX.out.ra.cell 0
        have z1 := HBX.out.ra.cell 1
        have z2 := HBX.out.ra.cell 2
        have HLT := Lib.hid HBX.out.rr.lt
        have HC1 := Lib.hid (covL_len alo ahi)
        have HC2 := Lib.hid (covL_len ahi bhi)
        have hzl1 : Hid (((covL alo ahi).zip aa).length = n) := Lib.hid (by rw [List.length_zip, hcn, hl1.out]; omega)
        have hzl2 : Hid (((covL ahi bhi).zip bb).length = m) := Lib.hid (by rw [List.length_zip, hcm, hl2.out]; omega)
        clear e1 e2 e3 e4 e5 e6 g1 g2 g3 g4 g5 g6 hcn hcm
        go_wp2_with fail
        refine HOP.out.mono ?_
        rintro e w3 ⟨v3, rfl, o3, b3⟩
        have b4 : Below w3.heap.size w3 (w3.alloc (.cells #[v3, .slice none 0 0] 80)) := (Below.refl _ w3).alloc (Nat.le_refl _) _
        have rp := Row.new w3 #[v3, .slice none 0 0] 80
        have HRR : Hid (RunR w2 w3.heap.size ((covL alo ahi).zip aa) [] v3 (.slice none 0 0) (w3.alloc (.cells #[v3, .slice none 0 0] 80))) := Lib.hid {
          bel := chain b3 b4
          bp := b3.size
          row := rp
          on := own_below o3 b4
          ow := World.ownsRow_nil _ _ _ _
          pn := fun e => by have := own_lt o3 _ e; omega
          pw := fun e => by simp [Value.ownBlock] at e
          nw := fun _ _ e => by simp [Value.ownBlock] at e }
        have HB4 := Lib.hid (HBX.out.call (chain b3 b4))
        have y0 := HB4.out.rb.cell 0
        have y1 := HB4.out.rb.cell 1
        have y2 := HB4.out.rb.cell 2
        obtain ⟨AV, cv, ev, _⟩ := own_mds o3
        obtain ⟨LN, hLN⟩ : ∃ LN, ((covL alo ahi).zip aa).length = LN := ⟨_, rfl⟩
        rw [hLN] at ev
        clear hLN
        subst ev
        clear o3 b3 b4 rp z0 z1 z2 p1 p2
        go_wp2_with fail
        refine (HOQ.out _ HRR.out.bel).mono ?_
        rintro e w5 ⟨v5, rfl, o5, b5⟩
        obtain ⟨BL, dl, e5, hdl, hm5, _⟩ := own_mds o5
        subst e5
        have HB5 := Lib.hid (HB4.out.call b5)
        have HR5 := Lib.hid (HRR.out.below b5)
        clear y0 y1 y2
        have HKX : Hid (∃ r o, KR r o w3.heap.size (.slice AV LN cv) (.slice none 0 0) w5 ∧ ∀ W : World, W.heap[r]? = some o → Mds W BL ((covL ahi bhi).zip bb).length ((covL ahi bhi).zip bb)) := Lib.hid (by
          have hbp := HR5.out.bp
          have hlt := HLT.out
          rcases own_keepM o5 with hl | ⟨r, o, hr1, hr2, hr3⟩
          · have hr := HB5.out.ra
            refine ⟨w.heap.size, _, ⟨hr, by omega, fun e => ?_, fun e => by simp [Value.ownBlock] at e⟩, fun W _ => ⟨rfl, fun h => absurd h (by rw [hl]; simp)⟩⟩
            have := own_base HR5.out.on _ e; omega
          · have h1 := HRR.out.row.lt
            refine ⟨r, o, ⟨hr2, by omega, fun e => ?_, fun e => by simp [Value.ownBlock] at e⟩, hr3⟩
            have := own_lt HRR.out.on _ e; omega)
        clear o5 hm5 b5
        obtain ⟨r, o, hkx, hadr⟩ := HKX.out
        have HADR := Lib.hid hadr
        have hbz := Lib.hid (zip_ok HZB.out)
        have haz := Lib.hid (zip_ok HZA.out)
        have HST : Hid (RunR w2 w3.heap.size ((covL alo ahi).zip aa) [] (.slice AV LN cv) (.slice none 0 0) w5 ∧ KR r o w3.heap.size (.slice AV LN cv) (.slice none 0 0) w5) := Lib.hid ⟨HR5.out, hkx⟩
        have HMN : Hid (MergeA k alo ahi aa ahi bhi bb w = Ans alo bhi 0 ((behs k ((covL alo ahi).zip aa) ((covL ahi bhi).zip bb)).1.map (·.2)) (behs k ((covL alo ahi).zip aa) ((covL ahi bhi).zip bb)).2 w) := Lib.hid (by
          have he : mergeE k alo ahi aa ahi bhi bb = 0 := by unfold mergeE; rw [HZA.out, HZB.out, if_neg (by simp), if_neg (by simp), if_neg (by simp)]
          unfold MergeA mergeLo mergeHi mergeN
          rw [he, if_neg (by simp), if_neg (by simp), if_neg (by simp)])
        have HZL : Hid (((covL alo ahi).zip aa).length ≤ 122) := Lib.hid (by rw [List.length_zip]; have := HC1.out; omega)
        have HZM : Hid (((covL ahi bhi).zip bb).length ≤ 122) := Lib.hid (by rw [List.length_zip]; have := HC2.out; omega)
        clear hkx hadr HKX
        generalize (covL ahi bhi).zip bb = ZB at *
        generalize (covL alo ahi).zip aa = ZA at *
        obtain ⟨LB, hLB⟩ : ∃ LB, ZB.length = LB := ⟨_, rfl⟩
        rw [hLB] at HADR HZM
        have HLB := Lib.hid hLB
        rw [hLB]
        clear hLB
        go_wp2
        go_loopw [12] (fun s12 wr => ∃ (j : Nat) (nv wv : Value), s12 = .int .i64 (j : Int) ∧ j ≤ LB ∧ Hid (RunR w2 w3.heap.size (behs k ZA (ZB.take j)).1 (behs k ZA (ZB.take j)).2 nv wv wr ∧ KR r o w3.heap.size nv wv wr)) (fun s12 _ => LB - (intOf s12).toNat)
        case atStart => exact ⟨0, _, _, rfl, Nat.zero_le _, by rw [List.take_zero]; exact HST⟩
        case round =>
          clear HST
          obtain ⟨j, nv, wv, rfl, hj, hr⟩ := hrel
          have HBW := Lib.hid (chain HBX.out.bel hr.out.1.bel)
          by_cases hlt : j < LB
          · obtain ⟨R, K⟩ := hr.out
            obtain ⟨bd, X, rfl, _, hX, hXb, x0, x1, x2⟩ := (HADR.out wr K.here).at3 j hlt
            have hlz := HLB.out
            have hstep := behG_step k (ZA, []) ZB j (by omega)
            have hyz : ZB.getD j md0 ∈ ZB := by
              rw [List.getD_eq_getElem?_getD, List.getElem?_eq_getElem (show j < ZB.length by omega)]
              exact List.getElem_mem _
            have hoky := hbz.out _ hyz
            have hlen := behG_len k (ZB.take j) (ZA, [])
            have hzal : ZA.length ≤ 122 := HZL.out
            have hzbl := HZM.out
            have hokst := behG_ok k (ZB.take j) (ZA, []) haz.out (fun y hy => hbz.out y (List.mem_of_mem_take hy))
            have htk : (ZB.take j).length ≤ 122 := by rw [List.length_take]; omega
            simp only [List.length_nil] at hlen
            generalize ZB.getD j md0 = y at *
            have HBH : Hid (Calls Tryd.prog 42 #[.pointer (some ⟨w3.heap.size, 0, none⟩), .int .i64 k, .agg #[.int .i64 (y.1.1 : Int), .int .i64 (y.1.2 : Int), .string y.2]] wr
              (fun e w' => e = .returned (.tuple #[]) ∧ ∃ nv' wv', RunR w2 w3.heap.size (behs k ZA (ZB.take (j + 1))).1 (behs k ZA (ZB.take (j + 1))).2 nv' wv' w' ∧ KR r o w3.heap.size nv' wv' w')) := Lib.hid (by
              have := rbehind_callsK r o w2 w3.heap.size k _ _ y nv wv wr R K (HT.out.below HBX.out.bel) hokst hoky (by unfold behs; omega)
              unfold behs at *
              rw [hstep]
              exact this)
            have j0 : (0 : Int) ≤ (j : Int) := by omega
            have j1 : (j : Int) < (LB : Int) := by omega
            clear R K hstep hyz hoky hlen hzal hzbl hokst htk hXb hlz hr
            go_wp2_with fail
            refine HBH.out.mono ?_
            rintro e w6 ⟨rfl, nv6, wv6, R6, K6⟩
            have HN := Lib.hid (And.intro R6 K6)
            clear R6 K6 x0 x1 x2
            have hLB := HZM.out
            go_wp2
            go_roundw
            case rel => exact ⟨j + 1, nv6, wv6, by go_num, by omega, HN⟩
            case measure => simp only [intOf]; omega
          · obtain rfl : j = LB := by omega
            obtain ⟨R3, _⟩ := hr.out
            rw [List.take_of_length_le (by rw [HLB.out]; omega)] at R3
            obtain ⟨AN, cN, en, _, hmn, _⟩ := own_mds R3.on
            have hlenN := behG_len k ZB (ZA, [])
            have hzal : ZA.length ≤ 122 := HZL.out
            have hzbl := HZM.out
            have hlz := HLB.out
            simp only [List.length_nil] at hlenN
            have HM := Lib.hid hmn
            have HMS : Hid ((behs k ZA ZB).1.length ≤ 4000) := Lib.hid (by unfold behs; omega)
            generalize behs k ZA ZB = BB at *
            obtain ⟨N, hN⟩ : ∃ N, BB.1.length = N := ⟨_, rfl⟩
            rw [hN] at en HM HMS hmn
            subst en
            have HFR : Hid (∀ W, Below wr.heap.size wr W → Calls Tryd.prog 43 #[.int .i64 alo, .int .i64 bhi, .slice AN N cN] W (fun e w' => ∃ v, e = .returned (.agg #[.int .i64 alo, .int .i64 bhi, v]) ∧ Strs.Own w' W.heap.size v (BB.1.map (·.2)) ∧ Below W.heap.size W w')) :=
              Lib.hid (fun W hW => frontier_calls alo bhi AN N cN BB.1 W (HM.out.below hW) HMS.out)
            have HR3 := Lib.hid R3
            have HBXR := Lib.hid (HBX.out.call R3.bel)
            have u0 := HBXR.out.ra.cell 0
            have u1 := HBXR.out.rb.cell 1
            have u2 := R3.row.cell 0
            have HC : Hid (∀ W, Below wr.heap.size wr W → W.cell? ⟨w.heap.size, 0, none⟩ = some (.int .i64 alo) ∧ W.cell? ⟨w.heap.size + 1, 1, none⟩ = some (.int .i64 bhi) ∧ W.cell? ⟨w3.heap.size, 0, none⟩ = some (.slice AN N cN)) := Lib.hid (fun W hW => by
              have r := HR3.out.below hW
              have b := HBXR.out.call hW
              exact ⟨b.ra.cell 0, b.rb.cell 1, r.row.cell 0⟩)
            have hlt0 := HLT.out
            have hbp := R3.bp
            have hbels := R3.bel.size
            clear R3 hmn hlenN hzal hzbl hlz hr
            go_wp2_with fail
            go_region_held3 (fun W => W.cell? ⟨w.heap.size, 0, none⟩ = some (.int .i64 alo) ∧ W.cell? ⟨w.heap.size + 1, 1, none⟩ = some (.int .i64 bhi) ∧ W.cell? ⟨w3.heap.size, 0, none⟩ = some (.slice AN N cN)) (first | go_keep | exact HC.out _ B4 | exact HC.out _ (B4.alloc B4.size _) | exact HC.out _ (((B4.setCell (Nat.le_refl _) _).setCell (Nat.le_refl _) _).setCell (Nat.le_refl _) _) | exact HC.out _ (((Below.refl _ _).alloc (Nat.le_refl _) _).drew))
              ((go_at_call 43; (with_reducible refine (HFR.out _ (by first | exact (Below.refl _ _).drew | exact ((Below.refl _ _).alloc (Nat.le_refl _) _).drew)).mono ?_); rintro e w4 ⟨v4, rfl, o4, b4⟩; obtain ⟨A4, c4, e4, _, _⟩ := o4.shape; obtain ⟨M4, hM4⟩ : ∃ M4, (BB.1.map (·.2)).length = M4 := ⟨_, rfl⟩; rw [hM4] at e4; clear hM4; subst e4; have B4 : Below wr.heap.size wr w4 := (by first | exact chain (Below.refl _ _).drew b4 | exact chain ((Below.refl _ _).alloc (Nat.le_refl _) _).drew b4); (first | (have rz := Row.below (Row.drew (Row.new wr #[.int .i64 0, .int .i64 0, .slice none 0 0] 24)) b4 (by simp); have g0 := rz.cell 0; have g1 := rz.cell 1; have g2 := rz.cell 2; have g3 := rz.free 0; have g4 := rz.free 1; have g5 := rz.free 2; clear rz) | skip); have HO4 := Lib.hid o4; have HB4 := Lib.hid b4; clear o4 b4))
            · have bA := B4.alloc B4.size (.cells #[.int .i64 alo, .int .i64 bhi, .slice A4 M4 c4] 24)
              have rA := Row.new w4 #[.int .i64 alo, .int .i64 bhi, .slice A4 M4 c4] 24
              have HR5 := Lib.hid (HR3.out.below bA)
              have hn3 : ¬ (w4.heap.size = w.heap.size + 1 + 1) := by have := B4.size; omega
              have hn4 : ¬ (w.heap.size + 1 + 1 = w4.heap.size) := by have := B4.size; omega
              have HO5 : Hid (Strs.Own (w4.alloc (.cells #[.int .i64 alo, .int .i64 bhi, .slice A4 M4 c4] 24)) wr.heap.size (.slice A4 M4 c4) (BB.1.map (·.2))) := Lib.hid (World.ownsRow.alloc HO4.out _)
              have HRB := Lib.hid rA
              clear bA rA B4 HC HFR
              obtain ⟨W5, hW5⟩ : ∃ W5, w4.alloc (.cells #[.int .i64 alo, .int .i64 bhi, .slice A4 M4 c4] 24) = W5 := ⟨_, rfl⟩
              rw [hW5] at HR5 HO5 HRB ⊢
              clear hW5
              have R5 := HR5.out
              have HEND := Lib.hid (rmerge_end (lo := alo) (hi1 := bhi) HBX.out.bel hlt0 R5.bel HO5.out R5.ow (own_lt HR3.out.ow) hbels)
              have v0 := HRB.out.cell 0
              have v1 := HRB.out.cell 1
              have v2 := HRB.out.cell 2
              have v3 := R5.row.cell 1
              have q3 := (HBX.out.call R5.bel).rr
              have d0 := q3.cell 0
              have d1 := q3.cell 1
              have d2 := q3.cell 2
              have f0 := q3.free 0
              have f1 := q3.free 1
              have f2 := q3.free 2
              have hn1 : ¬ (w.heap.size + 1 + 1 = w3.heap.size) := by omega
              have hn2 : ¬ (w3.heap.size = w.heap.size + 1 + 1) := by omega
              clear R5 q3 u0 u1 u2
              go_wp2_with fail
              go_region
              all_goals go_wp2
              refine bodyPost_ret (v := .tuple #[.agg #[.int .i64 alo, .int .i64 bhi, .slice A4 M4 c4], wv, .int .i64 0]) (by simp [results, Tryd.f24, go_sem, d0, d1, d2]) rfl ?_
              rw [HMN.out]
              exact HEND.out _ _ _
            · have rz := Row.below (Row.drew (Row.new wr #[.int .i64 0, .int .i64 0, .slice none 0 0] 24)) HB4.out (by simp)
              have bB := ((B4.setCell (p := ⟨wr.heap.size, 0, none⟩) (Nat.le_refl _) (.int .i64 alo)).setCell (p := ⟨wr.heap.size, 1, none⟩) (Nat.le_refl _) (.int .i64 bhi)).setCell (p := ⟨wr.heap.size, 2, none⟩) (Nat.le_refl _) (.slice A4 M4 c4)
              have HR5 := Lib.hid (HR3.out.below bB)
              have HRB := Lib.hid (((rz.set 0 (.int .i64 alo)).set 1 (.int .i64 bhi)).set 2 (.slice A4 M4 c4))
              have hn3 : ¬ (wr.heap.size = w.heap.size + 1 + 1) := by omega
              have hn4 : ¬ (w.heap.size + 1 + 1 = wr.heap.size) := by omega
              have hoff : ∀ i : Nat, (Value.slice A4 M4 c4).ownBlock ≠ some (⟨wr.heap.size, i, none⟩ : Addr).block := fun i e => by
                have h1 := own_base HO4.out _ e
                have h2 : (wr.alloc (.cells #[.int .i64 0, .int .i64 0, .slice none 0 0] 24)).heap.size ≤ wr.heap.size := h1
                rw [World.size_alloc] at h2
                omega
              have HO5 := Lib.hid (Lst.own_down (base' := wr.heap.size) (ownsRow_setCell_other (a := ⟨wr.heap.size, 2, none⟩) (ownsRow_setCell_other (a := ⟨wr.heap.size, 1, none⟩) (ownsRow_setCell_other (a := ⟨wr.heap.size, 0, none⟩) HO4.out (hoff 0) (.int .i64 alo)) (hoff 1) (.int .i64 bhi)) (hoff 2) (.slice A4 M4 c4)) (by show wr.heap.size ≤ (wr.alloc (.cells #[.int .i64 0, .int .i64 0, .slice none 0 0] 24)).heap.size; rw [World.size_alloc]; omega))
              clear rz bB B4 HC HFR hoff HO4 HB4
              obtain ⟨W5, hW5⟩ : ∃ W5, ((w4.setCell ⟨wr.heap.size, 0, none⟩ (.int .i64 alo)).setCell ⟨wr.heap.size, 1, none⟩ (.int .i64 bhi)).setCell ⟨wr.heap.size, 2, none⟩ (.slice A4 M4 c4) = W5 := ⟨_, rfl⟩
              rw [hW5] at HR5 HO5 HRB ⊢
              clear hW5 g0 g1 g2 g3 g4 g5
              have R5 := HR5.out
              have HEND := Lib.hid (rmerge_end (lo := alo) (hi1 := bhi) HBX.out.bel hlt0 R5.bel HO5.out R5.ow (own_lt HR3.out.ow) hbels)
              have v0 := HRB.out.cell 0
              have v1 := HRB.out.cell 1
              have v2 := HRB.out.cell 2
              have v3 := R5.row.cell 1
              have q3 := (HBX.out.call R5.bel).rr
              have d0 := q3.cell 0
              have d1 := q3.cell 1
              have d2 := q3.cell 2
              have f0 := q3.free 0
              have f1 := q3.free 1
              have f2 := q3.free 2
              have hn1 : ¬ (w.heap.size + 1 + 1 = w3.heap.size) := by omega
              have hn2 : ¬ (w3.heap.size = w.heap.size + 1 + 1) := by omega
              clear R5 q3 u0 u1 u2
              go_wp2_with fail
              go_region
              all_goals go_wp2
              refine bodyPost_ret (v := .tuple #[.agg #[.int .i64 alo, .int .i64 bhi, .slice A4 M4 c4], wv, .int .i64 0]) (by simp [results, Tryd.f24, go_sem, d0, d1, d2]) rfl ?_
              rw [HMN.out]
              exact HEND.out _ _ _
      · have HF : Hid (mergeE k alo ahi aa blo bhi bb = 70) := Lib.hid (by unfold mergeE; rw [HZA.out, HZB.out, if_neg (by simp), if_neg (by simp), if_pos hab])
        have HZ : Hid ((70 : Int) ≠ 0) := Lib.hid (by decide)
        have h1 : (ahi == blo) = false := by rw [beq_eq_false_iff_ne]; exact hab
        have h2 : (ahi != blo) = true := by rw [bne, h1]; rfl
        clear hab
        have r0 := HBX.out.rr.cell 0
        have r1 := HBX.out.rr.cell 1
        have r2 := HBX.out.rr.cell 2
        have f0 := HBX.out.rr.free 0
        have f1 := HBX.out.rr.free 1
        have f2 := HBX.out.rr.free 2
        go_wp2
        refine bodyPost_ret (v := .tuple #[fv 0 0 none 0 0, .slice none 0 0, .int .i64 70]) (by simp [results, Tryd.f24, go_sem, r0, r1, r2]) rfl (mergeA_bad HF.out HZ.out (HBX.out.end _ _ _))
    · have HF : Hid (mergeE k alo ahi aa blo bhi bb = chk k blo bhi bb) := Lib.hid (by unfold mergeE; rw [HZA.out, if_neg (by simp), if_pos hz])
      have HZ := Lib.hid hz
      generalize chk k blo bhi bb = z at *
      have hlo1 : (z == 0) = false := by rw [beq_eq_false_iff_ne]; exact hz
      have hlo2 : (z != 0) = true := by rw [bne, hlo1]; rfl
      clear hz
      have r0 := HBX.out.rr.cell 0
      have r1 := HBX.out.rr.cell 1
      have r2 := HBX.out.rr.cell 2
      have f0 := HBX.out.rr.free 0
      have f1 := HBX.out.rr.free 1
      have f2 := HBX.out.rr.free 2
      go_wp2
      refine bodyPost_ret (v := .tuple #[fv 0 0 none 0 0, .slice none 0 0, .int .i64 z]) (by simp [results, Tryd.f24, go_sem, r0, r1, r2]) rfl (mergeA_bad HF.out HZ.out (HBX.out.end _ _ _))
  · have HF : Hid (mergeE k alo ahi aa blo bhi bb = chk k alo ahi aa) := Lib.hid (by unfold mergeE; rw [if_pos hz])
    have HZ := Lib.hid hz
    generalize chk k alo ahi aa = z at *
    have hlo1 : (z == 0) = false := by rw [beq_eq_false_iff_ne]; exact hz
    have hlo2 : (z != 0) = true := by rw [bne, hlo1]; rfl
    clear hz
    have r0 := HBX1.out.rr.cell 0
    have r1 := HBX1.out.rr.cell 1
    have r2 := HBX1.out.rr.cell 2
    have f0 := HBX1.out.rr.free 0
    have f1 := HBX1.out.rr.free 1
    have f2 := HBX1.out.rr.free 2
    go_wp2
    refine bodyPost_ret (v := .tuple #[fv 0 0 none 0 0, .slice none 0 0, .int .i64 z]) (by simp [results, Tryd.f24, go_sem, r0, r1, r2]) rfl (mergeA_bad HF.out HZ.out (HBX1.out.end _ _ _))
end Go.Proofs.YtahkpcbemnfllaaDoor.Comp
