/- (*run).behind with one block beside it that stays: plain, and its walk. -/
import Derived.Test.YtahkpcbemnfllaaDoorBeh
set_option linter.unusedVariables false
set_option linter.unusedSimpArgs false
namespace Go.Proofs.YtahkpcbemnfllaaDoor.CompK
open Go.RowKit Go.Proofs.YtahkpcbemnfllaaDoor.Base Go.Proofs.YtahkpcbemnfllaaDoor.Mem Go.Proofs.YtahkpcbemnfllaaDoor.Strs Go.Proofs.YtahkpcbemnfllaaDoor.ShaDig Go.Proofs.YtahkpcbemnfllaaDoor.TreeHash Go.Proofs.YtahkpcbemnfllaaDoor.Cov Go.Proofs.YtahkpcbemnfllaaDoor.Comp
open Go.Proofs.YtahkpcbemnfllaaDoor.Lst (OwnA Adr OwnA.shape Kp own_below Lst ac ac_append ac_length infoAddr own_lt own_base own_shape own_kp)

/-- Block r holds o; it is none of the run's. -/
structure KX (r : Nat) (o : Obj) (p q : Nat) (hv av mv : Value) (W : World) : Prop where
  here : W.heap[r]? = some o
  rp : r ≠ p
  rq : r ≠ q
  rh : Off r hv
  ra : Off r av
  rm : Off r mv
variable {w0 : World} {F p q r : Nat} {o : Obj} {lo kk hi : Int} {st md : List Md} {hv av mv : Value} {W W' : World}
theorem KX.lt (h : KX r o p q hv av mv W) : r < W.heap.size := (Array.getElem?_eq_some_iff.1 h.here).1
theorem KX.below (h : KX r o p q hv av mv W) (b : Below W.heap.size W W') : KX r o p q hv av mv W' := { h with here := (b.block r h.lt).trans h.here }
theorem KX.set (h : KX r o p q hv av mv W) (a : Addr) (ha : r ≠ a.block) (v : Value) : KX r o p q hv av mv (W.setCell a v) := { h with here := (Below.heap_setCell W a v r ha).trans h.here }
theorem KX.grown (h : KX r o p q hv av mv W) {row : Option Nat} (g : W.grownBy W' row) (hr : row ≠ some r) : KX r o p q hv av mv W' := { h with here := (g.block r h.lt (fun e => hr e.symm)).trans h.here }
theorem KX.told {B : Nat} {x : Md} {e : Ending} {mv2 : Value} (h : KX r o p q hv av mv W) (hq : Row W' q #[mv2] 40) (t : Comp.Told B q mv md x W e W') : KX r o p q hv av mv2 W' := by
  obtain ⟨_, mv', h1, h2, h3, h4⟩ := t
  have hmv : mv2 = mv' := by
    have := hq.cell 0
    rw [h1.cell 0] at this
    simpa using this.symm
  subst hmv
  exact { h with
    here := (h3.block r h.lt (fun e => by rcases e with e | e; exact h.rq e; exact h.rm e)).trans h.here
    rm := fun e => by rcases h4 r e with h5 | h5; exact h.rm h5; have := h.lt; omega }
theorem KX.pop {g1 g2 n1 n2 m1 m2 c1 c2 : Nat} (h : KX r o p q (.slice (some ⟨g1, 0, none⟩) n1 c1) (.slice (some ⟨g2, 0, none⟩) n2 c2) mv W) (v4 v2 : Value) :
    KX r o p q (.slice (some ⟨g1, 0, none⟩) m1 c1) (.slice (some ⟨g2, 0, none⟩) m2 c2) mv ((W.setCell ⟨p, 4, none⟩ v4).setCell ⟨p, 2, none⟩ v2) :=
  { here := ((h.set _ h.rp _).set _ h.rp _).here, rp := h.rp, rq := h.rq, rh := h.rh, ra := h.ra, rm := h.rm }
variable {wr wA wD : World} {b g1 g2 n n2 c1 c2 : Nat} {cs : Array Value} {xs ys : List Value} {ss : List ByteArray}
/-- Both appends, the second box being there in whatever world it is there. -/
theorem two_appsK {x : Md} {b1 : Nat} (f : World → World) (fb : World → Nat) (h : RunS w0 F p q lo kk hi st md hv av mv wr) (hk : KX r o p q hv av mv wr) (hbx : Row wr b cs 52) (hba : Off b av) (hbh : Off b hv) (hl : st.length + 1 ≤ 8796093022208) (hW : Below wr.heap.size wr W)
    (hb1 : W.heap[b1]? = some (.cells #[.int .i64 (x.1.1 : Int), .int .i64 (x.1.2 : Int)] 52 (0, 0))) (hf : ∀ wA, Below wA.heap.size wA (f wA)) (e : ∀ wA, W.grownBy wA av.ownBlock → (f wA).heap[fb wA]? = some (.cells #[.string x.2] 9 (0, 0))) :
    ∃ gA cA wA, appA W av b1 (.slice (some ⟨gA, 0, none⟩) (st.length + 1) cA) wA ∧ W.grownBy wA av.ownBlock ∧ ∃ gD cD wD, appS (f wA) hv (fb wA) (.slice (some ⟨gD, 0, none⟩) (st.length + 1) cD) wD ∧ (Row wA p #[.int .i64 lo, .int .i64 hi, hv, .int .i64 kk, av, clo F q] 76 ∧ Row wA b cs 52) ∧
      (Row wD p #[.int .i64 lo, .int .i64 hi, hv, .int .i64 kk, av, clo F q] 76 ∧ Row wD b cs 52) ∧
      ∀ hi2, RunS w0 F p q lo kk hi2 (st ++ [x]) md (.slice (some ⟨gD, 0, none⟩) (st.length + 1) cD) (.slice (some ⟨gA, 0, none⟩) (st.length + 1) cA) mv
        (((wD.setCell ⟨p, 4, none⟩ (.slice (some ⟨gA, 0, none⟩) (st.length + 1) cA)).setCell ⟨p, 2, none⟩ (.slice (some ⟨gD, 0, none⟩) (st.length + 1) cD)).setCell ⟨p, 1, none⟩ (.int .i64 hi2)) ∧
        KX r o p q (.slice (some ⟨gD, 0, none⟩) (st.length + 1) cD) (.slice (some ⟨gA, 0, none⟩) (st.length + 1) cA) mv (((wD.setCell ⟨p, 4, none⟩ (.slice (some ⟨gA, 0, none⟩) (st.length + 1) cA)).setCell ⟨p, 2, none⟩ (.slice (some ⟨gD, 0, none⟩) (st.length + 1) cD)).setCell ⟨p, 1, none⟩ (.int .i64 hi2)) := by
  have hR := h.below hW
  obtain ⟨gA, cA, wA, r1, q1⟩ := run_appA (l := st.map (·.1)) (y := x.1) hR.oa hb1 hR.bel.size (by rw [List.length_map]; exact hl)
  have m := h.midA hbx hba hW q1
  have mf := m.below (hf wA)
  have hs : wr.heap.size ≤ (f wA).heap.size := Nat.le_trans hW.size (Nat.le_trans q1.2.1.size (hf wA).size)
  obtain ⟨gD, cD, wD, r2, q2⟩ := run_appS (l := st.map (·.2)) (y := x.2) mf.oh (e wA q1.2.1) mf.bel.size (by rw [List.length_map]; exact hl)
  have hfin := fun hi2 => MidS.fin (hi2 := hi2) h hs hbh mf q2 (by rw [List.length_map]) (by rw [List.length_map])
  have k1 := (hk.below hW).grown q1.2.1 hk.ra
  have k2 := k1.below (hf wA)
  have k3 := k2.grown q2.2.1 hk.rh
  have oA : gA ≠ r := fun e => by
    rcases q1.2.2.1 with h5 | h5
    · exact hk.ra (by rw [h5, e])
    · have := (hk.below hW).lt; omega
  have oD : gD ≠ r := fun e => by
    rcases q2.2.2.1 with h5 | h5
    · exact hk.rh (by rw [h5, e])
    · have := k2.lt; omega
  simp only [List.length_map] at r1 r2 hfin
  exact ⟨gA, cA, wA, r1, q1.2.1, gD, cD, wD, r2, ⟨m.row, m.bx⟩, (hfin 0).1, fun hi2 => ⟨(hfin hi2).2, { here := (((k3.set _ hk.rp _).set _ hk.rp _).set _ hk.rp _).here, rp := hk.rp, rq := hk.rq, rh := fun e => oD (by simpa [Value.ownBlock] using e), ra := fun e => oA (by simpa [Value.ownBlock] using e), rm := hk.rm }⟩⟩
end Go.Proofs.YtahkpcbemnfllaaDoor.CompK
namespace Go.Proofs.YtahkpcbemnfllaaDoor.CompK
open Go.RowKit Go.Proofs.YtahkpcbemnfllaaDoor.Base Go.Proofs.YtahkpcbemnfllaaDoor.Mem Go.Proofs.YtahkpcbemnfllaaDoor.Strs Go.Proofs.YtahkpcbemnfllaaDoor.ShaDig Go.Proofs.YtahkpcbemnfllaaDoor.TreeHash Go.Proofs.YtahkpcbemnfllaaDoor.Cov Go.Proofs.YtahkpcbemnfllaaDoor.Comp
open Go.Proofs.YtahkpcbemnfllaaDoor.Lst (OwnA Adr OwnA.shape Kp own_below Lst ac ac_append ac_length infoAddr own_lt own_base own_shape own_kp)
attribute [-go_sem] Go.Builtin.append_

/-- Where the loop stands. -/
structure At (r : Nat) (o : Obj) (w0 : World) (F p q : Nat) (lo kk hi : Int) (ST MD : List Md) (b : Nat) (st md : List Md) (x : Md) (hv av mv : Value) (W : World) : Prop where
  run : RunS w0 F p q lo kk hi st md hv av mv W
  box : Row W b #[.int .i64 (x.1.1 : Int), .int .i64 (x.1.2 : Int)] 52
  bp : b ≠ p
  bq : b ≠ q
  bh : Off b hv
  ba : Off b av
  bm : Off b mv
  s1 : (beh kk st x).1 = ST
  s2 : md ++ (beh kk st x).2 = MD
  ok : ∀ a ∈ st, okM a
  okx : okM x
  len : st.length ≤ 4000
  lem : md.length + st.length ≤ 4000
  bb : w0.heap.size ≤ b
  kx : KX r o p q hv av mv W
  br : r ≠ b
variable {r : Nat} {o : Obj} {w0 : World} {F p q b : Nat} {lo kk hi : Int} {ST MD st md : List Md} {a x : Md} {hv av mv : Value} {W W' : World}
theorem At.below (h : At r o w0 F p q lo kk hi ST MD b st md x hv av mv W) (k : Below W.heap.size W W') : At r o w0 F p q lo kk hi ST MD b st md x hv av mv W' :=
  { h with run := h.run.below k, box := h.box.below k h.box.lt, kx := h.kx.below k }
theorem At.top (h : At r o w0 F p q lo kk hi ST MD b (st ++ [a]) md x hv av mv W) : ∃ g1 c1 g2 c2, hv = .slice (some ⟨g1, 0, none⟩) (st.length + 1) c1 ∧ av = .slice (some ⟨g2, 0, none⟩) (st.length + 1) c2 ∧ st.length + 1 ≤ c1 ∧ st.length + 1 ≤ c2 ∧
    W.cell? ⟨g2, st.length * 2, none⟩ = some (.int .i64 (a.1.1 : Int)) ∧ W.cell? ⟨g2, st.length * 2 + 1, none⟩ = some (.int .i64 (a.1.2 : Int)) ∧ W.cell? ⟨g1, st.length, none⟩ = some (.string a.2) := by
  have oa := h.run.oa
  have oh := h.run.oh
  obtain ⟨A2, c2, rfl, _⟩ := oa.shape
  obtain ⟨A1, c1, rfl, _⟩ := oh.shape
  obtain ⟨g2, rfl, _, hc2⟩ := own_form oa (by simp)
  obtain ⟨g1, rfl, _, hc1⟩ := own_form oh (by simp)
  have e1 : ((st ++ [a]).map (·.1)).length = st.length + 1 := by simp
  have e2 : ((st ++ [a]).map (·.2)).length = st.length + 1 := by simp
  have k0 := oa.cellAt (st.length * 2) (by omega)
  have k1 := oa.cellAt (st.length * 2 + 1) (by omega)
  have k2 := (own_cell oh st.length (by omega)).1
  rw [e1, e2]
  rw [e1] at hc2
  rw [e2] at hc1
  refine ⟨g1, c1, g2, c2, rfl, rfl, hc1, hc2, ?_, ?_, ?_⟩
  · rw [k0, List.map_append, ac_append, List.getElem?_append_right (by rw [ac_length, List.length_map]; omega), ac_length, List.length_map, Nat.sub_self]; rfl
  · rw [k1, List.map_append, ac_append, List.getElem?_append_right (by rw [ac_length, List.length_map]; omega), ac_length, List.length_map, Nat.add_sub_cancel_left]; rfl
  · rw [k2, List.map_append, List.getD_eq_getElem?_getD, List.getElem?_append_right (by rw [List.length_map]; omega), List.length_map, Nat.sub_self]; rfl
theorem At.popped {g1 g2 c1 c2 : Nat} (h : At r o w0 F p q lo kk hi ST MD b (st ++ [a]) md x (.slice (some ⟨g1, 0, none⟩) (st.length + 1) c1) (.slice (some ⟨g2, 0, none⟩) (st.length + 1) c2) mv W) (y : Md) :
    RunS w0 F p q lo kk hi st md (.slice (some ⟨g1, 0, none⟩) st.length c1) (.slice (some ⟨g2, 0, none⟩) st.length c2) mv ((((W.setCell ⟨b, 0, none⟩ (.int .i64 (y.1.1 : Int))).setCell ⟨b, 1, none⟩ (.int .i64 (y.1.2 : Int))).setCell ⟨p, 4, none⟩ (.slice (some ⟨g2, 0, none⟩) st.length c2)).setCell ⟨p, 2, none⟩ (.slice (some ⟨g1, 0, none⟩) st.length c1)) ∧
      Row ((((W.setCell ⟨b, 0, none⟩ (.int .i64 (y.1.1 : Int))).setCell ⟨b, 1, none⟩ (.int .i64 (y.1.2 : Int))).setCell ⟨p, 4, none⟩ (.slice (some ⟨g2, 0, none⟩) st.length c2)).setCell ⟨p, 2, none⟩ (.slice (some ⟨g1, 0, none⟩) st.length c1)) b #[.int .i64 (y.1.1 : Int), .int .i64 (y.1.2 : Int)] 52 ∧
      KX r o p q (.slice (some ⟨g1, 0, none⟩) st.length c1) (.slice (some ⟨g2, 0, none⟩) st.length c2) mv ((((W.setCell ⟨b, 0, none⟩ (.int .i64 (y.1.1 : Int))).setCell ⟨b, 1, none⟩ (.int .i64 (y.1.2 : Int))).setCell ⟨p, 4, none⟩ (.slice (some ⟨g2, 0, none⟩) st.length c2)).setCell ⟨p, 2, none⟩ (.slice (some ⟨g1, 0, none⟩) st.length c1)) := by
  have hB : w0.heap.size ≤ b := h.bb
  have hr : RunS w0 F p q lo kk hi (st ++ [a]) md (.slice (some ⟨g1, 0, none⟩) (st.length + 1) c1) (.slice (some ⟨g2, 0, none⟩) (st.length + 1) c2) mv ((W.setCell ⟨b, 0, none⟩ (.int .i64 (y.1.1 : Int))).setCell ⟨b, 1, none⟩ (.int .i64 (y.1.2 : Int))) :=
    { h.run with
      bel := (h.run.bel.setCell hB _).setCell hB _
      row := (h.run.row.far _ (Ne.symm h.bp) _).far _ (Ne.symm h.bp) _
      box := (h.run.box.far _ (Ne.symm h.bq) _).far _ (Ne.symm h.bq) _
      oh := ownsRow_setCell_other (a := ⟨b, 1, none⟩) (ownsRow_setCell_other (a := ⟨b, 0, none⟩) h.run.oh h.bh _) h.bh _
      oa := ownsRow_setCell_other (a := ⟨b, 1, none⟩) (ownsRow_setCell_other (a := ⟨b, 0, none⟩) h.run.oa h.ba _) h.ba _
      om := ownsRow_setCell_other (a := ⟨b, 1, none⟩) (ownsRow_setCell_other (a := ⟨b, 0, none⟩) h.run.om h.bm _) h.bm _ }
  exact ⟨hr.pop, (((h.box.set 0 _).set 1 _).far _ h.bp _).far _ h.bp _, ((h.kx.set ⟨b, 0, none⟩ h.br _).set ⟨b, 1, none⟩ h.br _).pop _ _⟩
theorem At.next {g1 g2 c1 c2 : Nat} {e : Ending} {W2 W3 : World} (h : At r o w0 F p q lo kk hi ST MD b (st ++ [a]) md x (.slice (some ⟨g1, 0, none⟩) (st.length + 1) c1) (.slice (some ⟨g2, 0, none⟩) (st.length + 1) c2) mv W) (hp : pairB a.1 x.1 = true)
    (rr : RunS w0 F p q lo kk hi st md (.slice (some ⟨g1, 0, none⟩) st.length c1) (.slice (some ⟨g2, 0, none⟩) st.length c2) mv W2) (hbx : Row W2 b #[.int .i64 ((a.1.1 + 1 : Nat) : Int), .int .i64 ((a.1.2 / 2 : Nat) : Int)] 52)
    (kx2 : KX r o p q (.slice (some ⟨g1, 0, none⟩) st.length c1) (.slice (some ⟨g2, 0, none⟩) st.length c2) mv W2) (t : Comp.Told w0.heap.size q mv md (upM kk a x) W2 e W3) : ∃ mv', At r o w0 F p q lo kk hi ST MD b st (md ++ [upM kk a x]) (upM kk a x) (.slice (some ⟨g1, 0, none⟩) st.length c1) (.slice (some ⟨g2, 0, none⟩) st.length c2) mv' W3 := by
  have t' := t
  have t2 := t
  obtain ⟨mv', r'⟩ := rr.told t
  obtain ⟨_, mv2, h1, h2, h3, h4⟩ := t'
  have hmv : mv2 = mv' := by
    have := r'.box.cell 0
    rw [h1.cell 0] at this
    simpa using this
  subst hmv
  have s1 := h.s1
  have s2 := h.s2
  rw [beh_yes hp] at s1 s2
  refine ⟨mv2, ⟨r', (h3.block b hbx.lt (fun e => by rcases e with e | e; exact h.bq e; exact h.bm e)).trans hbx, h.bp, h.bq, h.bh, h.ba, fun e => ?_, s1, by rw [← s2]; simp, fun y hy => h.ok y (by simp [hy]), okM_up h.okx hp, ?_, ?_, h.bb, kx2.told r'.box t2, h.br⟩⟩
  · rcases h4 b e with h5 | h5
    · exact h.bm h5
    · have := hbx.lt; omega
  · have := h.len; simp at this; omega
  · have := h.lem; simp at this ⊢; omega
set_option maxRecDepth 100000 in
set_option maxHeartbeats 4000000 in
theorem behind_callsK (r : Nat) (o : Obj) (w0 : World) (F p q : Nat) (lo kk hi hi2 : Int) (st md : List Md) (x : Md) (hv av mv : Value) (w : World) (hF : Tells F) (hE : ∀ args W, (callFunc F args).run Tryd.prog W = .ok (.enter F args) W) (h : RunS w0 F p q lo kk hi st md hv av mv w) (hk : KX r o p q hv av mv w) (hT : Tab w0) (hok : ∀ a ∈ st, okM a) (hx : okM x) (hl : md.length + st.length ≤ 4000) :
    Calls Tryd.prog 39 #[.pointer (some ⟨p, 0, none⟩), .agg #[.int .i64 (x.1.1 : Int), .int .i64 (x.1.2 : Int)], .string x.2, .int .i64 hi2] w
      (fun e w' => e = .returned (.tuple #[]) ∧ ∃ hv' av' mv', RunS w0 F p q lo kk hi2 (beh kk st x).1 (md ++ (beh kk st x).2) hv' av' mv' w' ∧ KX r o p q hv' av' mv' w') := by
  obtain ⟨ST, hST⟩ : ∃ ST, (beh kk st x).1 = ST := ⟨_, rfl⟩
  obtain ⟨MD, hMD⟩ : ∃ MD, md ++ (beh kk st x).2 = MD := ⟨_, rfl⟩
  rw [hST, hMD]
  have hb0 : Below w.heap.size w (w.alloc (.cells #[.int .i64 (x.1.1 : Int), .int .i64 (x.1.2 : Int)] 52)) := (Below.refl _ w).alloc (Nat.le_refl _) _
  have r1 := Row.new w #[.int .i64 (x.1.1 : Int), .int .i64 (x.1.2 : Int)] 52
  have hAt : At r o w0 F p q lo kk hi ST MD w.heap.size st md x hv av mv (w.alloc (.cells #[.int .i64 (x.1.1 : Int), .int .i64 (x.1.2 : Int)] 52)) :=
    ⟨h.below hb0, r1, fun e => by have := h.row.lt; omega, fun e => by have := h.box.lt; omega, fun e => by have := own_lt h.oh _ e; omega, fun e => by have := own_lt h.oa _ e; omega, fun e => by have := own_lt h.om _ e; omega, hST, hMD, hok, hx, by omega, hl, h.bel.size, hk.below hb0, fun e => by have := hk.lt; omega⟩
  have HT := Lib.hid hT
  have HAT := Lib.hid hAt
  have HB0 := Lib.hid h.bel.size
  obtain ⟨A, c, rfl, _, _, _⟩ := h.oa.shape
  rw [List.length_map] at *
  have c4 := hAt.run.row.cell 4
  clear h hk hT hok hx hb0 r1 hAt hST hMD
  go_enter Tryd.func39, Tryd.ntmps39
  go_wp2
  obtain ⟨W0, hW0⟩ : ∃ W0, w.alloc (.cells #[.int .i64 (x.1.1 : Int), .int .i64 (x.1.2 : Int)] 52) = W0 := ⟨_, rfl⟩
  rw [hW0] at HAT c4 ⊢
  clear hW0 c4
  go_loopw [2, 8, 9, 10, 11] (fun s2 s8 _ _ _ wr => ∃ (st md : List Md) (x : Md) (hv av mv : Value), s2 = .string x.2 ∧ s8 = .int .i64 (st.length : Int) ∧ Hid (At r o w0 F p q lo kk hi ST MD w.heap.size st md x hv av mv wr)) (fun _ s8 _ _ _ _ => (intOf s8).toNat)
  case atStart => exact ⟨st, md, x, hv, _, mv, rfl, rfl, HAT⟩
  case round =>
    clear HAT
    obtain ⟨st, md, x, hv, av, mv, rfl, rfl, hr⟩ := hrel
    rcases List.eq_nil_or_concat st with rfl | ⟨st', a, rfl⟩
    · have HR := hr
      have HLN : Hid (([] : List Md).length + 1 ≤ 8796093022208) := Lib.hid (by simp)
      have hrow := HR.out.run.row
      have hbox := HR.out.box
      have tw2 := hrow.cell 2
      have tw4 := hrow.cell 4
      have tw0 := hbox.cell 0
      have tw1 := hbox.cell 1
      have ta2 := (hrow.alloc (.cells #[.int .i64 (x.1.1 : Int), .int .i64 (x.1.2 : Int)] 52)).cell 2
      have ta4 := (hrow.alloc (.cells #[.int .i64 (x.1.1 : Int), .int .i64 (x.1.2 : Int)] 52)).cell 4
      have ta0 := (hbox.alloc (.cells #[.int .i64 (x.1.1 : Int), .int .i64 (x.1.2 : Int)] 52)).cell 0
      have ta1 := (hbox.alloc (.cells #[.int .i64 (x.1.1 : Int), .int .i64 (x.1.2 : Int)] 52)).cell 1
      have tb2 := (hrow.alloc (.cells #[.string x.2] 9)).cell 2
      have tb4 := (hrow.alloc (.cells #[.string x.2] 9)).cell 4
      have tb0 := (hbox.alloc (.cells #[.string x.2] 9)).cell 0
      have tb1 := (hbox.alloc (.cells #[.string x.2] 9)).cell 1
      have tc2 := ((hrow.alloc (.cells #[.int .i64 (x.1.1 : Int), .int .i64 (x.1.2 : Int)] 52)).alloc (.cells #[.string x.2] 9)).cell 2
      have tc4 := ((hrow.alloc (.cells #[.int .i64 (x.1.1 : Int), .int .i64 (x.1.2 : Int)] 52)).alloc (.cells #[.string x.2] 9)).cell 4
      have tc0 := ((hbox.alloc (.cells #[.int .i64 (x.1.1 : Int), .int .i64 (x.1.2 : Int)] 52)).alloc (.cells #[.string x.2] 9)).cell 0
      have tc1 := ((hbox.alloc (.cells #[.int .i64 (x.1.1 : Int), .int .i64 (x.1.2 : Int)] 52)).alloc (.cells #[.string x.2] 9)).cell 1
      have td2 := ((hrow.alloc (.cells #[.string x.2] 9)).alloc (.cells #[.int .i64 (x.1.1 : Int), .int .i64 (x.1.2 : Int)] 52)).cell 2
      have td4 := ((hrow.alloc (.cells #[.string x.2] 9)).alloc (.cells #[.int .i64 (x.1.1 : Int), .int .i64 (x.1.2 : Int)] 52)).cell 4
      have td0 := ((hbox.alloc (.cells #[.string x.2] 9)).alloc (.cells #[.int .i64 (x.1.1 : Int), .int .i64 (x.1.2 : Int)] 52)).cell 0
      have td1 := ((hbox.alloc (.cells #[.string x.2] 9)).alloc (.cells #[.int .i64 (x.1.1 : Int), .int .i64 (x.1.2 : Int)] 52)).cell 1
      have hlt := own_lt HR.out.run.oa
      have hST : ([] : List Md) ++ [x] = ST := HR.out.s1
      have hMD : md = MD := (by have := HR.out.s2; simpa [beh_nil] using this)
      obtain ⟨gA, cA, wA, a1, ga, gD, cD, wD, d1, ⟨ra, rb⟩, ⟨rc, rd⟩, fin1⟩   := two_appsK (st := ([] : List Md)) (x := x) (W := (wr.alloc (.cells #[.int .i64 (x.1.1 : Int), .int .i64 (x.1.2 : Int)] 52)).drew) (b1 := wr.heap.size) (fun wA => wA.alloc (.cells #[.string x.2] 9)) (fun wA => wA.heap.size) HR.out.run HR.out.kx HR.out.box HR.out.ba HR.out.bh HLN.out ((Below.refl _ wr).alloc (Nat.le_refl _) _).drew
        (heap_alloc_new _ _) (fun wA => (Below.refl _ wA).alloc (Nat.le_refl _) _) (fun wA _ => heap_alloc_new _ _)
      have k1 := rc.cell 1
      have j1 := rc.free 1
      have k2 := rc.cell 2
      have j2 := rc.free 2
      have k4 := rc.cell 4
      have j4 := rc.free 4
      have l2 := ra.cell 2
      have l3 := (ra.alloc (.cells #[.string x.2] 9)).cell 2
      rw [hST, hMD] at fin1
      have F1 := Lib.hid fin1
      clear fin1 ra rb rc rd ga
      obtain ⟨gA, cA, wA, a1, ga, gD, cD, wD, d1, ⟨ra, rb⟩, ⟨rc, rd⟩, fin1⟩   := two_appsK (st := ([] : List Md)) (x := x) (W := ((wr.alloc (.cells #[.int .i64 (x.1.1 : Int), .int .i64 (x.1.2 : Int)] 52)).alloc (.cells #[.string x.2] 9)).drew) (b1 := wr.heap.size) (fun wA => wA) (fun wA => wr.heap.size + 1) HR.out.run HR.out.kx HR.out.box HR.out.ba HR.out.bh HLN.out (((Below.refl _ wr).alloc (Nat.le_refl _) _).alloc (by simp) _).drew
        (heap_keep _ _ _ (heap_alloc_new _ _)) (fun wA => Below.refl _ wA) (fun wA g => heap_grown g (heap_new_at _ _ (by simp)) (grown_lt hlt (by omega)))
      have k1 := rc.cell 1
      have j1 := rc.free 1
      have k2 := rc.cell 2
      have j2 := rc.free 2
      have k4 := rc.cell 4
      have j4 := rc.free 4
      have l2 := ra.cell 2
      have l3 := (ra.alloc (.cells #[.string x.2] 9)).cell 2
      rw [hST, hMD] at fin1
      have F2 := Lib.hid fin1
      clear fin1 ra rb rc rd ga
      obtain ⟨gA, cA, wA, a1, ga, gD, cD, wD, d1, ⟨ra, rb⟩, ⟨rc, rd⟩, fin1⟩   := two_appsK (st := ([] : List Md)) (x := x) (W := ((wr.alloc (.cells #[.string x.2] 9)).alloc (.cells #[.int .i64 (x.1.1 : Int), .int .i64 (x.1.2 : Int)] 52)).drew) (b1 := wr.heap.size + 1) (fun wA => wA) (fun wA => wr.heap.size) HR.out.run HR.out.kx HR.out.box HR.out.ba HR.out.bh HLN.out (((Below.refl _ wr).alloc (Nat.le_refl _) _).alloc (by simp) _).drew
        (heap_new_at _ _ (by simp)) (fun wA => Below.refl _ wA) (fun wA g => heap_grown g (heap_keep _ _ _ (heap_alloc_new _ _)) (grown_lt hlt (by omega)))
      have k1 := rc.cell 1
      have j1 := rc.free 1
      have k2 := rc.cell 2
      have j2 := rc.free 2
      have k4 := rc.cell 4
      have j4 := rc.free 4
      have l2 := ra.cell 2
      have l3 := (ra.alloc (.cells #[.string x.2] 9)).cell 2
      rw [hST, hMD] at fin1
      have F3 := Lib.hid fin1
      clear fin1 ra rb rc rd ga
      clear hlt hrow hbox hST hMD
      go_wp2_with fail
      go_region
      all_goals go_wp2
      all_goals go_end0
      all_goals first | exact ⟨rfl, _, _, _, F1.out _⟩ | exact ⟨rfl, _, _, _, F2.out _⟩ | exact ⟨rfl, _, _, _, F3.out _⟩
    · rw [List.concat_eq_append] at hr ⊢
      obtain ⟨g1, c1, g2, c2, rfl, rfl, hc1, hc2, x0, x1, x2⟩ := hr.out.top
      have hrow := hr.out.run.row
      have p4 := hrow.cell 4
      have oka := hr.out.ok a (by simp)
      have HSI : Hid (∀ W, Calls Tryd.prog 56 #[.agg #[.int .i64 (a.1.1 : Int), .int .i64 (a.1.2 : Int)]] W (AddrErr (sibV a.1) (sibE a.1) W)) := Lib.hid (fun W => sib_calls a.1.1 a.1.2 W oka.1 oka.2.1)
      have hX2 : (⟨g2, 0, none⟩ : Addr).add (st'.length * 2) = ⟨g2, st'.length * 2, none⟩ := Arr.add_plain g2 (st'.length * 2) 0 |>.trans (by rw [Nat.zero_add])
      have hX1 : (⟨g1, 0, none⟩ : Addr).add st'.length = ⟨g1, st'.length, none⟩ := Arr.add_plain g1 st'.length 0 |>.trans (by rw [Nat.zero_add])
      have hll : (st' ++ [a]).length = st'.length + 1 := by simp
      have hlen := hr.out.len
      rw [hll] at hlen ⊢
      have HX1 := Lib.hid hX1
      have HX := Lib.hid x2
      have hb9 : Below wr.heap.size wr (wr.alloc (.cells #[.int .i64 (a.1.1 : Int), .int .i64 (a.1.2 : Int)] 52)) := (Below.refl _ wr).alloc (Nat.le_refl _) _
      have HR9 := Lib.hid (Row.new wr #[.int .i64 (a.1.1 : Int), .int .i64 (a.1.2 : Int)] 52)
      have HA9 := Lib.hid (hr.out.below hb9)
      have z0 := HR9.out.cell 0
      have z1 := HR9.out.cell 1
      clear hrow hX1 x2 oka hll
      go_wp2_with fail
      refine (HSI.out _).mono ?_
      rintro e w1 ⟨rfl, b1⟩
      have HA10 := Lib.hid ((HA9.out.below b1).below ((Below.refl _ w1).alloc (Nat.le_refl _) (.cells #[.int .i64 ((sibV a.1).1 : Int), .int .i64 ((sibV a.1).2 : Int)] 52)))
      have HR10 := Lib.hid (Row.new w1 #[.int .i64 ((sibV a.1).1 : Int), .int .i64 ((sibV a.1).2 : Int)] 52)
      have HR9' := Lib.hid ((HR9.out.below b1 HR9.out.lt).alloc (.cells #[.int .i64 ((sibV a.1).1 : Int), .int .i64 ((sibV a.1).2 : Int)] 52))
      clear b1 HR9 HA9 hb9 z0 z1 x0 x1 p4
      by_cases hp : pairB a.1 x.1 = true
      · obtain ⟨y1, y2, y3⟩ := (pair_iff _ _).1 hp
        have HP := Lib.hid hp
        rw [y1]
        rw [y2] at HA10 HR10 HR9' ⊢
        have y4 : decide ((x.1.2 : Int) < (a.1.2 : Int)) = false := decide_eq_false (by omega)
        have z0 := HR10.out.cell 0
        have z1 := HR10.out.cell 1
        have z2 := HR9'.out.cell 0
        have z3 := HR9'.out.cell 1
        have z4 := HA10.out.box.cell 0
        have z5 := HA10.out.box.cell 1
        clear y1 y2 hp
        go_wp2_with fail
        obtain ⟨W4, hW4⟩ : ∃ W4, w1.alloc (.cells #[.int .i64 (x.1.1 : Int), .int .i64 (x.1.2 : Int)] 52) = W4 := ⟨_, rfl⟩
        rw [hW4] at HA10 z0 z1 z2 z3 z4 z5 ⊢
        clear hW4 z0 z1 z2 z3 z4 z5 HR10 HR9' y3 y4 HSI
        have HN : Hid (∀ W, Below W4.heap.size W4 W → Calls Tryd.prog 53 #[.int .i64 kk, .string a.2, .string x.2] W (fun e w' => e = .returned (.string (nodeH kk a.2 x.2)) ∧ Below W4.heap.size W4 w')) :=
          Lib.hid (fun W hW => (node_calls kk a.2 x.2 (by have := (HA10.out.ok a (by simp)).2.2; have := HA10.out.okx.2.2; omega) W (HT.out.below (chain HA10.out.run.bel hW))).mono fun e w' h => ⟨h.1, chain hW h.2⟩)
        have q3 := HA10.out.run.row.cell 3
        have q2 := HA10.out.run.row.cell 2
        have q9 : W4.cell? ⟨g1, st'.length, none⟩ = some (.string a.2) := by
          obtain ⟨_, _, _, _, e1, _, _, _, _, _, q9⟩ := HA10.out.top
          cases e1
          exact q9
        have HC : Hid (∀ W, Below W4.heap.size W4 W → W.cell? ⟨p, 3, none⟩ = some (.int .i64 kk) ∧ W.cell? ⟨p, 2, none⟩ = some (.slice (some ⟨g1, 0, none⟩) (st'.length + 1) c1) ∧ W.cell? ⟨g1, st'.length, none⟩ = some (.string a.2)) := Lib.hid (fun W hW => by
          have h1 := HA10.out.below hW
          obtain ⟨_, _, _, _, e1, _, _, _, _, _, q9⟩ := h1.top
          cases e1
          exact ⟨h1.run.row.cell 3, h1.run.row.cell 2, q9⟩)
        have hX1 := HX1.out
        have i0 : (0 : Int) ≤ (st'.length : Int) := by omega
        have i1 : (st'.length : Int) < ((st'.length : Int) + 1) := by omega
        have i3 : ¬ ((st'.length : Int) < 0) := by omega
        have i4 : (st'.length : Int).toNat = st'.length := by omega
        have i5 : st'.length < st'.length + 1 := by omega
        have i6 : IntKind.i64.wrap (st'.length : Int) = (st'.length : Int) := IntWalk.i64_in _ (by omega)
        have i7 : IntKind.i64.wrap ((st'.length : Int) + 1 - 1) = (st'.length : Int) := by rw [Int.add_sub_cancel]; exact i6
        have i2 : (st'.length : Int) < ((st'.length + 1 : Nat) : Int) := by omega
        go_region_held3 (fun W => W.cell? ⟨p, 3, none⟩ = some (.int .i64 kk) ∧ W.cell? ⟨p, 2, none⟩ = some (.slice (some ⟨g1, 0, none⟩) (st'.length + 1) c1) ∧ W.cell? ⟨g1, st'.length, none⟩ = some (.string a.2)) (first | exact HC.out _ (Below.refl _ _).drew | exact HC.out _ B5)
          ((go_at_call 53; (with_reducible refine (HN.out _ (by exact (Below.refl _ _).drew)).mono ?_); rintro e w5 ⟨rfl, B5⟩))
        have HA5 := Lib.hid (HA10.out.below B5)
        have n0 := HA5.out.box.cell 0
        have n1 := HA5.out.box.cell 1
        have m0 := HA5.out.box.free 0
        have m1 := HA5.out.box.free 1
        have hpd := of_decide_eq_true HP.out
        obtain ⟨Y, hY⟩ : ∃ Y, Y = a.1.2 / 2 := ⟨_, rfl⟩
        obtain ⟨L, hL⟩ : ∃ L, L = a.1.1 + 1 := ⟨_, rfl⟩
        have hq2 : (x.1.2 : Int).tdiv 2 = (Y : Int) := by
          have : x.1.2 / 2 = Y := by omega
          rw [← this]; rfl
        have hq1 : (x.1.1 : Int) + 1 = (L : Int) := by omega
        have hL3 : L ≤ 62 := by omega
        have hY3 : Y ≤ 4611686018427387904 := by have := okM_lt HA5.out.okx; omega
        have hq3 : (x.1.1 : Int) < 63 := by omega
        have hq4 : IntKind.i64.wrap (Y : Int) = (Y : Int) := IntWalk.i64_in _ (by omega)
        have hq5 : IntKind.i64.wrap ((x.1.1 : Int) + 1) = (L : Int) := by rw [hq1]; exact IntWalk.i64_in _ (by omega)
        have HYL := Lib.hid (And.intro hY hL)
        obtain ⟨P1, P2, P3⟩ := HA5.out.popped ((L, Y), nodeH kk a.2 x.2)
        have HP1 := Lib.hid P1
        have HP2 := Lib.hid P2
        have HP3 := Lib.hid P3
        clear hpd P1 P2 P3 HC HN HA10 B5 hY hL
        go_wp2_with fail
        have r6 := (HA5.out.run.row.far ⟨w.heap.size, 0, none⟩ (Ne.symm HA5.out.bp) (.int .i64 (L : Int))).far ⟨w.heap.size, 1, none⟩ (Ne.symm HA5.out.bp) (.int .i64 (Y : Int))
        obtain ⟨W6, hW6⟩ : ∃ W6, (w5.setCell ⟨w.heap.size, 0, none⟩ (.int .i64 (L : Int))).setCell ⟨w.heap.size, 1, none⟩ (.int .i64 (Y : Int)) = W6 := ⟨_, rfl⟩
        rw [hW6] at r6 HP1 HP2 HP3 ⊢
        have hcutA : ∀ W, (Instr.slice 62 (.slice (some ⟨g2, 0, none⟩) (st'.length + 1) c2) none (some (.int .i64 (st'.length : Int))) none).run Tryd.prog W = .ok (.slice (some ⟨g2, 0, none⟩) st'.length c2) W := fun W => run_cut_g Tryd.underlying62 sizeAddr W _ _ _ _ (by omega)
        have hcutS : ∀ W, (Instr.slice 22 (.slice (some ⟨g1, 0, none⟩) (st'.length + 1) c1) none (some (.int .i64 (st'.length : Int))) none).run Tryd.prog W = .ok (.slice (some ⟨g1, 0, none⟩) st'.length c1) W := fun W => run_cut_h W _ _ _ _ (by omega)
        have n2 := r6.cell 2
        have n4 := r6.cell 4
        have m2 := r6.free 2
        have m4 := r6.free 4
        clear hW6 r6 n0 n1 m0 m1 hq1 hq2 hq3 hq4 hq5 hL3 hY3
        go_region
        obtain ⟨W7, hW7⟩ : ∃ W7, ((W6.setCell ⟨p, 4, none⟩ (.slice (some ⟨g2, 0, none⟩) st'.length c2)).setCell ⟨p, 2, none⟩ (.slice (some ⟨g1, 0, none⟩) st'.length c1)).drew = W7 := ⟨_, rfl⟩
        have HQ1 := Lib.hid (HP1.out.below (Below.refl _ _).drew)
        have HQ2 := Lib.hid (HP2.out.below (Below.refl _ _).drew HP2.out.lt)
        have HQ3 := Lib.hid (HP3.out.below (Below.refl _ _).drew)
        rw [hW7] at HQ1 HQ2 HQ3 ⊢
        clear hW7
        have HTL : Hid (∀ Wd, Below W7.heap.size W7 Wd → Calls Tryd.prog F #[.agg #[.int .i64 (L : Int), .int .i64 (Y : Int), .string (nodeH kk a.2 x.2)], .pointer (some ⟨q, 0, none⟩)] Wd (fun e w' => e = .returned (.tuple #[]) ∧ ∃ mv', At r o w0 F p q lo kk hi ST MD w.heap.size st' (md ++ [upM kk a x]) (upM kk a x) (.slice (some ⟨g1, 0, none⟩) st'.length c1) (.slice (some ⟨g2, 0, none⟩) st'.length c2) mv' w')) := Lib.hid (fun Wd hd => by
          obtain ⟨rfl, rfl⟩ := HYL.out
          have rd := HQ1.out.below hd
          refine (hF w0.heap.size q mv md ((a.1.1 + 1, a.1.2 / 2), nodeH kk a.2 x.2) Wd rd.box rd.om rd.mq rd.bel.size (by have := HA5.out.lem; simp at this; omega)).mono fun e w' t => ⟨t.1, ?_⟩
          exact At.next HA5.out HP.out rd (HQ2.out.below hd HQ2.out.lt) (HQ3.out.below hd) t)
        have n5 := HQ1.out.row.cell 5
        have n0 := HQ2.out.cell 0
        have n1 := HQ2.out.cell 1
        have HXX : Hid (nodeH kk a.2 x.2 = (upM kk a x).2 ∧ L = (upM kk a x).1.1 ∧ Y = (upM kk a x).1.2) := Lib.hid ⟨rfl, HYL.out.2, HYL.out.1⟩
        clear HP1 HP2 HP3 n2 n4 m2 m4 hcutA hcutS
        generalize nodeH kk a.2 x.2 = hh at *
        go_wp2_with fail
        go_region_held3 (fun W => W.cell? ⟨p, 5, none⟩ = some (clo F q) ∧ W.cell? ⟨w.heap.size, 0, none⟩ = some (.int .i64 (L : Int)) ∧ W.cell? ⟨w.heap.size, 1, none⟩ = some (.int .i64 (Y : Int))) (first | exact ⟨n5, n0, n1⟩ | exact HS8)
          (((with_reducible refine (HTL.out _ (by exact (Below.refl _ _).drew)).mono ?_); rintro e w8 ⟨rfl, mv8, h8⟩; have HA8 := Lib.hid h8; have HS8 : w8.cell? ⟨p, 5, none⟩ = some (clo F q) ∧ w8.cell? ⟨w.heap.size, 0, none⟩ = some (.int .i64 (L : Int)) ∧ w8.cell? ⟨w.heap.size, 1, none⟩ = some (.int .i64 (Y : Int)) := (⟨h8.run.row.cell 5, by rw [HXX.out.2.1]; exact h8.box.cell 0, by rw [HXX.out.2.2]; exact h8.box.cell 1⟩); clear h8))
        go_wp2
        go_roundw
        case rel => exact ⟨st', _, upM kk a x, _, _, mv8, by rw [HXX.out.1], by go_num, HA8⟩
        case measure => simp only [intOf]; omega
      · obtain ⟨W4, hW4⟩ : ∃ W4, w1.alloc (.cells #[.int .i64 ((sibV a.1).1 : Int), .int .i64 ((sibV a.1).2 : Int)] 52) = W4 := ⟨_, rfl⟩
        have z0 := HR10.out.cell 0
        have z1 := HR10.out.cell 1
        have z2 := HR9'.out.cell 0
        have z3 := HR9'.out.cell 1
        have z4 := HA10.out.box.cell 0
        have z5 := HA10.out.box.cell 1
        have hpi := (not_congr (pair_iff a.1 x.1)).1 hp
        have HST : Hid (st' ++ [a] ++ [x] = ST ∧ md = MD) := Lib.hid (by
          have s1 := HA10.out.s1
          have s2 := HA10.out.s2
          rw [beh_no (by simpa using hp)] at s1 s2
          exact ⟨s1, by simpa using s2⟩)
        have HL : Hid ((st' ++ [a]).length + 1 ≤ 8796093022208) := Lib.hid (by have := HA10.out.len; omega)
        obtain ⟨S, hS⟩ : ∃ S, st' ++ [a] = S := ⟨_, rfl⟩
        rw [hS] at HST HL HA10
        rw [hW4] at HA10
        have HW4 := Lib.hid hW4
        have HLN := HL
        have HR := HA10
        clear hr hp HA10 HR10 HR9' HSI HX HX1 hX2 hc1 hc2 hlen hS hW4
        generalize sibE a.1 = zE at *
        generalize sibV a.1 = zV at *
        by_cases h1 : zE = 0
        · by_cases h2 : zV = x.1
          · have h3 : x.1.2 < a.1.2 := by
              rcases Nat.lt_or_ge x.1.2 a.1.2 with h | h
              · exact h
              · exact absurd ⟨h1, h2, h⟩ hpi
            subst h1 h2
            clear hpi
            have y4 : decide ((x.1.2 : Int) < (a.1.2 : Int)) = true := decide_eq_true (by omega)
            go_wp2_with fail
            rw [HW4.out]
            clear z0 z1 z2 z3 z4 z5 y4
            have hrow := HR.out.run.row
            have hbox := HR.out.box
            have tw2 := hrow.cell 2
            have tw4 := hrow.cell 4
            have tw0 := hbox.cell 0
            have tw1 := hbox.cell 1
            have ta2 := (hrow.alloc (.cells #[.int .i64 (x.1.1 : Int), .int .i64 (x.1.2 : Int)] 52)).cell 2
            have ta4 := (hrow.alloc (.cells #[.int .i64 (x.1.1 : Int), .int .i64 (x.1.2 : Int)] 52)).cell 4
            have ta0 := (hbox.alloc (.cells #[.int .i64 (x.1.1 : Int), .int .i64 (x.1.2 : Int)] 52)).cell 0
            have ta1 := (hbox.alloc (.cells #[.int .i64 (x.1.1 : Int), .int .i64 (x.1.2 : Int)] 52)).cell 1
            have tb2 := (hrow.alloc (.cells #[.string x.2] 9)).cell 2
            have tb4 := (hrow.alloc (.cells #[.string x.2] 9)).cell 4
            have tb0 := (hbox.alloc (.cells #[.string x.2] 9)).cell 0
            have tb1 := (hbox.alloc (.cells #[.string x.2] 9)).cell 1
            have tc2 := ((hrow.alloc (.cells #[.int .i64 (x.1.1 : Int), .int .i64 (x.1.2 : Int)] 52)).alloc (.cells #[.string x.2] 9)).cell 2
            have tc4 := ((hrow.alloc (.cells #[.int .i64 (x.1.1 : Int), .int .i64 (x.1.2 : Int)] 52)).alloc (.cells #[.string x.2] 9)).cell 4
            have tc0 := ((hbox.alloc (.cells #[.int .i64 (x.1.1 : Int), .int .i64 (x.1.2 : Int)] 52)).alloc (.cells #[.string x.2] 9)).cell 0
            have tc1 := ((hbox.alloc (.cells #[.int .i64 (x.1.1 : Int), .int .i64 (x.1.2 : Int)] 52)).alloc (.cells #[.string x.2] 9)).cell 1
            have td2 := ((hrow.alloc (.cells #[.string x.2] 9)).alloc (.cells #[.int .i64 (x.1.1 : Int), .int .i64 (x.1.2 : Int)] 52)).cell 2
            have td4 := ((hrow.alloc (.cells #[.string x.2] 9)).alloc (.cells #[.int .i64 (x.1.1 : Int), .int .i64 (x.1.2 : Int)] 52)).cell 4
            have td0 := ((hbox.alloc (.cells #[.string x.2] 9)).alloc (.cells #[.int .i64 (x.1.1 : Int), .int .i64 (x.1.2 : Int)] 52)).cell 0
            have td1 := ((hbox.alloc (.cells #[.string x.2] 9)).alloc (.cells #[.int .i64 (x.1.1 : Int), .int .i64 (x.1.2 : Int)] 52)).cell 1
            have hlt := own_lt HR.out.run.oa
            have hST : S ++ [x] = ST := HST.out.1
            have hMD : md = MD := HST.out.2
            obtain ⟨gA, cA, wA, a1, ga, gD, cD, wD, d1, ⟨ra, rb⟩, ⟨rc, rd⟩, fin1⟩   := two_appsK (st := S) (x := x) (W := (W4.alloc (.cells #[.int .i64 (x.1.1 : Int), .int .i64 (x.1.2 : Int)] 52)).drew) (b1 := W4.heap.size) (fun wA => wA.alloc (.cells #[.string x.2] 9)) (fun wA => wA.heap.size) HR.out.run HR.out.kx HR.out.box HR.out.ba HR.out.bh HLN.out ((Below.refl _ W4).alloc (Nat.le_refl _) _).drew
              (heap_alloc_new _ _) (fun wA => (Below.refl _ wA).alloc (Nat.le_refl _) _) (fun wA _ => heap_alloc_new _ _)
            have k1 := rc.cell 1
            have j1 := rc.free 1
            have k2 := rc.cell 2
            have j2 := rc.free 2
            have k4 := rc.cell 4
            have j4 := rc.free 4
            have l2 := ra.cell 2
            have l3 := (ra.alloc (.cells #[.string x.2] 9)).cell 2
            rw [hST, hMD] at fin1
            have F1 := Lib.hid fin1
            clear fin1 ra rb rc rd ga
            obtain ⟨gA, cA, wA, a1, ga, gD, cD, wD, d1, ⟨ra, rb⟩, ⟨rc, rd⟩, fin1⟩   := two_appsK (st := S) (x := x) (W := ((W4.alloc (.cells #[.int .i64 (x.1.1 : Int), .int .i64 (x.1.2 : Int)] 52)).alloc (.cells #[.string x.2] 9)).drew) (b1 := W4.heap.size) (fun wA => wA) (fun wA => W4.heap.size + 1) HR.out.run HR.out.kx HR.out.box HR.out.ba HR.out.bh HLN.out (((Below.refl _ W4).alloc (Nat.le_refl _) _).alloc (by simp) _).drew
              (heap_keep _ _ _ (heap_alloc_new _ _)) (fun wA => Below.refl _ wA) (fun wA g => heap_grown g (heap_new_at _ _ (by simp)) (grown_lt hlt (by omega)))
            have k1 := rc.cell 1
            have j1 := rc.free 1
            have k2 := rc.cell 2
            have j2 := rc.free 2
            have k4 := rc.cell 4
            have j4 := rc.free 4
            have l2 := ra.cell 2
            have l3 := (ra.alloc (.cells #[.string x.2] 9)).cell 2
            rw [hST, hMD] at fin1
            have F2 := Lib.hid fin1
            clear fin1 ra rb rc rd ga
            obtain ⟨gA, cA, wA, a1, ga, gD, cD, wD, d1, ⟨ra, rb⟩, ⟨rc, rd⟩, fin1⟩   := two_appsK (st := S) (x := x) (W := ((W4.alloc (.cells #[.string x.2] 9)).alloc (.cells #[.int .i64 (x.1.1 : Int), .int .i64 (x.1.2 : Int)] 52)).drew) (b1 := W4.heap.size + 1) (fun wA => wA) (fun wA => W4.heap.size) HR.out.run HR.out.kx HR.out.box HR.out.ba HR.out.bh HLN.out (((Below.refl _ W4).alloc (Nat.le_refl _) _).alloc (by simp) _).drew
              (heap_new_at _ _ (by simp)) (fun wA => Below.refl _ wA) (fun wA g => heap_grown g (heap_keep _ _ _ (heap_alloc_new _ _)) (grown_lt hlt (by omega)))
            have k1 := rc.cell 1
            have j1 := rc.free 1
            have k2 := rc.cell 2
            have j2 := rc.free 2
            have k4 := rc.cell 4
            have j4 := rc.free 4
            have l2 := ra.cell 2
            have l3 := (ra.alloc (.cells #[.string x.2] 9)).cell 2
            rw [hST, hMD] at fin1
            have F3 := Lib.hid fin1
            clear fin1 ra rb rc rd ga
            clear hlt hrow hbox hST hMD
            go_region
            all_goals go_wp2
            all_goals go_end0
            all_goals first | exact ⟨rfl, _, _, _, F1.out _⟩ | exact ⟨rfl, _, _, _, F2.out _⟩ | exact ⟨rfl, _, _, _, F3.out _⟩
          · subst h1
            clear hpi
            by_cases h3 : zV.1 = x.1.1
            · obtain ⟨v1, v2⟩ := zV
              have h4 : v2 ≠ x.1.2 := fun h => h2 (Prod.ext h3 h)
              dsimp only at h3 z0 z1 z2 z3 z4 z5 HW4 ⊢
              subst h3
              have h5 : ((v2 : Int) == (x.1.2 : Int)) = false := by rw [beq_eq_false_iff_ne]; omega
              have h7 : ¬ (v2 : Int) = (x.1.2 : Int) := by omega
              clear h2
              go_wp2_with fail
              rw [HW4.out]
              clear z0 z1 z2 z3 z4 z5 h4 h5 h7
              have hrow := HR.out.run.row
              have hbox := HR.out.box
              have tw2 := hrow.cell 2
              have tw4 := hrow.cell 4
              have tw0 := hbox.cell 0
              have tw1 := hbox.cell 1
              have ta2 := (hrow.alloc (.cells #[.int .i64 (x.1.1 : Int), .int .i64 (x.1.2 : Int)] 52)).cell 2
              have ta4 := (hrow.alloc (.cells #[.int .i64 (x.1.1 : Int), .int .i64 (x.1.2 : Int)] 52)).cell 4
              have ta0 := (hbox.alloc (.cells #[.int .i64 (x.1.1 : Int), .int .i64 (x.1.2 : Int)] 52)).cell 0
              have ta1 := (hbox.alloc (.cells #[.int .i64 (x.1.1 : Int), .int .i64 (x.1.2 : Int)] 52)).cell 1
              have tb2 := (hrow.alloc (.cells #[.string x.2] 9)).cell 2
              have tb4 := (hrow.alloc (.cells #[.string x.2] 9)).cell 4
              have tb0 := (hbox.alloc (.cells #[.string x.2] 9)).cell 0
              have tb1 := (hbox.alloc (.cells #[.string x.2] 9)).cell 1
              have tc2 := ((hrow.alloc (.cells #[.int .i64 (x.1.1 : Int), .int .i64 (x.1.2 : Int)] 52)).alloc (.cells #[.string x.2] 9)).cell 2
              have tc4 := ((hrow.alloc (.cells #[.int .i64 (x.1.1 : Int), .int .i64 (x.1.2 : Int)] 52)).alloc (.cells #[.string x.2] 9)).cell 4
              have tc0 := ((hbox.alloc (.cells #[.int .i64 (x.1.1 : Int), .int .i64 (x.1.2 : Int)] 52)).alloc (.cells #[.string x.2] 9)).cell 0
              have tc1 := ((hbox.alloc (.cells #[.int .i64 (x.1.1 : Int), .int .i64 (x.1.2 : Int)] 52)).alloc (.cells #[.string x.2] 9)).cell 1
              have td2 := ((hrow.alloc (.cells #[.string x.2] 9)).alloc (.cells #[.int .i64 (x.1.1 : Int), .int .i64 (x.1.2 : Int)] 52)).cell 2
              have td4 := ((hrow.alloc (.cells #[.string x.2] 9)).alloc (.cells #[.int .i64 (x.1.1 : Int), .int .i64 (x.1.2 : Int)] 52)).cell 4
              have td0 := ((hbox.alloc (.cells #[.string x.2] 9)).alloc (.cells #[.int .i64 (x.1.1 : Int), .int .i64 (x.1.2 : Int)] 52)).cell 0
              have td1 := ((hbox.alloc (.cells #[.string x.2] 9)).alloc (.cells #[.int .i64 (x.1.1 : Int), .int .i64 (x.1.2 : Int)] 52)).cell 1
              have hlt := own_lt HR.out.run.oa
              have hST : S ++ [x] = ST := HST.out.1
              have hMD : md = MD := HST.out.2
              obtain ⟨gA, cA, wA, a1, ga, gD, cD, wD, d1, ⟨ra, rb⟩, ⟨rc, rd⟩, fin1⟩   := two_appsK (st := S) (x := x) (W := (W4.alloc (.cells #[.int .i64 (x.1.1 : Int), .int .i64 (x.1.2 : Int)] 52)).drew) (b1 := W4.heap.size) (fun wA => wA.alloc (.cells #[.string x.2] 9)) (fun wA => wA.heap.size) HR.out.run HR.out.kx HR.out.box HR.out.ba HR.out.bh HLN.out ((Below.refl _ W4).alloc (Nat.le_refl _) _).drew
                (heap_alloc_new _ _) (fun wA => (Below.refl _ wA).alloc (Nat.le_refl _) _) (fun wA _ => heap_alloc_new _ _)
              have k1 := rc.cell 1
              have j1 := rc.free 1
              have k2 := rc.cell 2
              have j2 := rc.free 2
              have k4 := rc.cell 4
              have j4 := rc.free 4
              have l2 := ra.cell 2
              have l3 := (ra.alloc (.cells #[.string x.2] 9)).cell 2
              rw [hST, hMD] at fin1
              have F1 := Lib.hid fin1
              clear fin1 ra rb rc rd ga
              obtain ⟨gA, cA, wA, a1, ga, gD, cD, wD, d1, ⟨ra, rb⟩, ⟨rc, rd⟩, fin1⟩   := two_appsK (st := S) (x := x) (W := ((W4.alloc (.cells #[.int .i64 (x.1.1 : Int), .int .i64 (x.1.2 : Int)] 52)).alloc (.cells #[.string x.2] 9)).drew) (b1 := W4.heap.size) (fun wA => wA) (fun wA => W4.heap.size + 1) HR.out.run HR.out.kx HR.out.box HR.out.ba HR.out.bh HLN.out (((Below.refl _ W4).alloc (Nat.le_refl _) _).alloc (by simp) _).drew
                (heap_keep _ _ _ (heap_alloc_new _ _)) (fun wA => Below.refl _ wA) (fun wA g => heap_grown g (heap_new_at _ _ (by simp)) (grown_lt hlt (by omega)))
              have k1 := rc.cell 1
              have j1 := rc.free 1
              have k2 := rc.cell 2
              have j2 := rc.free 2
              have k4 := rc.cell 4
              have j4 := rc.free 4
              have l2 := ra.cell 2
              have l3 := (ra.alloc (.cells #[.string x.2] 9)).cell 2
              rw [hST, hMD] at fin1
              have F2 := Lib.hid fin1
              clear fin1 ra rb rc rd ga
              obtain ⟨gA, cA, wA, a1, ga, gD, cD, wD, d1, ⟨ra, rb⟩, ⟨rc, rd⟩, fin1⟩   := two_appsK (st := S) (x := x) (W := ((W4.alloc (.cells #[.string x.2] 9)).alloc (.cells #[.int .i64 (x.1.1 : Int), .int .i64 (x.1.2 : Int)] 52)).drew) (b1 := W4.heap.size + 1) (fun wA => wA) (fun wA => W4.heap.size) HR.out.run HR.out.kx HR.out.box HR.out.ba HR.out.bh HLN.out (((Below.refl _ W4).alloc (Nat.le_refl _) _).alloc (by simp) _).drew
                (heap_new_at _ _ (by simp)) (fun wA => Below.refl _ wA) (fun wA g => heap_grown g (heap_keep _ _ _ (heap_alloc_new _ _)) (grown_lt hlt (by omega)))
              have k1 := rc.cell 1
              have j1 := rc.free 1
              have k2 := rc.cell 2
              have j2 := rc.free 2
              have k4 := rc.cell 4
              have j4 := rc.free 4
              have l2 := ra.cell 2
              have l3 := (ra.alloc (.cells #[.string x.2] 9)).cell 2
              rw [hST, hMD] at fin1
              have F3 := Lib.hid fin1
              clear fin1 ra rb rc rd ga
              clear hlt hrow hbox hST hMD
              go_region
              all_goals go_wp2
              all_goals go_end0
              all_goals first | exact ⟨rfl, _, _, _, F1.out _⟩ | exact ⟨rfl, _, _, _, F2.out _⟩ | exact ⟨rfl, _, _, _, F3.out _⟩
            · have h5 : ((zV.1 : Int) == (x.1.1 : Int)) = false := by rw [beq_eq_false_iff_ne]; omega
              have h7 : ¬ (zV.1 : Int) = (x.1.1 : Int) := by omega
              clear h2
              go_wp2_with fail
              rw [HW4.out]
              clear z0 z1 z2 z3 z4 z5 h3 h5 h7
              have hrow := HR.out.run.row
              have hbox := HR.out.box
              have tw2 := hrow.cell 2
              have tw4 := hrow.cell 4
              have tw0 := hbox.cell 0
              have tw1 := hbox.cell 1
              have ta2 := (hrow.alloc (.cells #[.int .i64 (x.1.1 : Int), .int .i64 (x.1.2 : Int)] 52)).cell 2
              have ta4 := (hrow.alloc (.cells #[.int .i64 (x.1.1 : Int), .int .i64 (x.1.2 : Int)] 52)).cell 4
              have ta0 := (hbox.alloc (.cells #[.int .i64 (x.1.1 : Int), .int .i64 (x.1.2 : Int)] 52)).cell 0
              have ta1 := (hbox.alloc (.cells #[.int .i64 (x.1.1 : Int), .int .i64 (x.1.2 : Int)] 52)).cell 1
              have tb2 := (hrow.alloc (.cells #[.string x.2] 9)).cell 2
              have tb4 := (hrow.alloc (.cells #[.string x.2] 9)).cell 4
              have tb0 := (hbox.alloc (.cells #[.string x.2] 9)).cell 0
              have tb1 := (hbox.alloc (.cells #[.string x.2] 9)).cell 1
              have tc2 := ((hrow.alloc (.cells #[.int .i64 (x.1.1 : Int), .int .i64 (x.1.2 : Int)] 52)).alloc (.cells #[.string x.2] 9)).cell 2
              have tc4 := ((hrow.alloc (.cells #[.int .i64 (x.1.1 : Int), .int .i64 (x.1.2 : Int)] 52)).alloc (.cells #[.string x.2] 9)).cell 4
              have tc0 := ((hbox.alloc (.cells #[.int .i64 (x.1.1 : Int), .int .i64 (x.1.2 : Int)] 52)).alloc (.cells #[.string x.2] 9)).cell 0
              have tc1 := ((hbox.alloc (.cells #[.int .i64 (x.1.1 : Int), .int .i64 (x.1.2 : Int)] 52)).alloc (.cells #[.string x.2] 9)).cell 1
              have td2 := ((hrow.alloc (.cells #[.string x.2] 9)).alloc (.cells #[.int .i64 (x.1.1 : Int), .int .i64 (x.1.2 : Int)] 52)).cell 2
              have td4 := ((hrow.alloc (.cells #[.string x.2] 9)).alloc (.cells #[.int .i64 (x.1.1 : Int), .int .i64 (x.1.2 : Int)] 52)).cell 4
              have td0 := ((hbox.alloc (.cells #[.string x.2] 9)).alloc (.cells #[.int .i64 (x.1.1 : Int), .int .i64 (x.1.2 : Int)] 52)).cell 0
              have td1 := ((hbox.alloc (.cells #[.string x.2] 9)).alloc (.cells #[.int .i64 (x.1.1 : Int), .int .i64 (x.1.2 : Int)] 52)).cell 1
              have hlt := own_lt HR.out.run.oa
              have hST : S ++ [x] = ST := HST.out.1
              have hMD : md = MD := HST.out.2
              obtain ⟨gA, cA, wA, a1, ga, gD, cD, wD, d1, ⟨ra, rb⟩, ⟨rc, rd⟩, fin1⟩   := two_appsK (st := S) (x := x) (W := (W4.alloc (.cells #[.int .i64 (x.1.1 : Int), .int .i64 (x.1.2 : Int)] 52)).drew) (b1 := W4.heap.size) (fun wA => wA.alloc (.cells #[.string x.2] 9)) (fun wA => wA.heap.size) HR.out.run HR.out.kx HR.out.box HR.out.ba HR.out.bh HLN.out ((Below.refl _ W4).alloc (Nat.le_refl _) _).drew
                (heap_alloc_new _ _) (fun wA => (Below.refl _ wA).alloc (Nat.le_refl _) _) (fun wA _ => heap_alloc_new _ _)
              have k1 := rc.cell 1
              have j1 := rc.free 1
              have k2 := rc.cell 2
              have j2 := rc.free 2
              have k4 := rc.cell 4
              have j4 := rc.free 4
              have l2 := ra.cell 2
              have l3 := (ra.alloc (.cells #[.string x.2] 9)).cell 2
              rw [hST, hMD] at fin1
              have F1 := Lib.hid fin1
              clear fin1 ra rb rc rd ga
              obtain ⟨gA, cA, wA, a1, ga, gD, cD, wD, d1, ⟨ra, rb⟩, ⟨rc, rd⟩, fin1⟩   := two_appsK (st := S) (x := x) (W := ((W4.alloc (.cells #[.int .i64 (x.1.1 : Int), .int .i64 (x.1.2 : Int)] 52)).alloc (.cells #[.string x.2] 9)).drew) (b1 := W4.heap.size) (fun wA => wA) (fun wA => W4.heap.size + 1) HR.out.run HR.out.kx HR.out.box HR.out.ba HR.out.bh HLN.out (((Below.refl _ W4).alloc (Nat.le_refl _) _).alloc (by simp) _).drew
                (heap_keep _ _ _ (heap_alloc_new _ _)) (fun wA => Below.refl _ wA) (fun wA g => heap_grown g (heap_new_at _ _ (by simp)) (grown_lt hlt (by omega)))
              have k1 := rc.cell 1
              have j1 := rc.free 1
              have k2 := rc.cell 2
              have j2 := rc.free 2
              have k4 := rc.cell 4
              have j4 := rc.free 4
              have l2 := ra.cell 2
              have l3 := (ra.alloc (.cells #[.string x.2] 9)).cell 2
              rw [hST, hMD] at fin1
              have F2 := Lib.hid fin1
              clear fin1 ra rb rc rd ga
              obtain ⟨gA, cA, wA, a1, ga, gD, cD, wD, d1, ⟨ra, rb⟩, ⟨rc, rd⟩, fin1⟩   := two_appsK (st := S) (x := x) (W := ((W4.alloc (.cells #[.string x.2] 9)).alloc (.cells #[.int .i64 (x.1.1 : Int), .int .i64 (x.1.2 : Int)] 52)).drew) (b1 := W4.heap.size + 1) (fun wA => wA) (fun wA => W4.heap.size) HR.out.run HR.out.kx HR.out.box HR.out.ba HR.out.bh HLN.out (((Below.refl _ W4).alloc (Nat.le_refl _) _).alloc (by simp) _).drew
                (heap_new_at _ _ (by simp)) (fun wA => Below.refl _ wA) (fun wA g => heap_grown g (heap_keep _ _ _ (heap_alloc_new _ _)) (grown_lt hlt (by omega)))
              have k1 := rc.cell 1
              have j1 := rc.free 1
              have k2 := rc.cell 2
              have j2 := rc.free 2
              have k4 := rc.cell 4
              have j4 := rc.free 4
              have l2 := ra.cell 2
              have l3 := (ra.alloc (.cells #[.string x.2] 9)).cell 2
              rw [hST, hMD] at fin1
              have F3 := Lib.hid fin1
              clear fin1 ra rb rc rd ga
              clear hlt hrow hbox hST hMD
              go_region
              all_goals go_wp2
              all_goals go_end0
              all_goals first | exact ⟨rfl, _, _, _, F1.out _⟩ | exact ⟨rfl, _, _, _, F2.out _⟩ | exact ⟨rfl, _, _, _, F3.out _⟩
        · have h3 : (zE == 0) = false := by rw [beq_eq_false_iff_ne]; exact h1
          have h4 : (zE != 0) = true := by rw [bne, h3]; rfl
          clear hpi
          go_wp2_with fail
          rw [HW4.out]
          clear z0 z1 z2 z3 z4 z5 h1 h3 h4
          have hrow := HR.out.run.row
          have hbox := HR.out.box
          have tw2 := hrow.cell 2
          have tw4 := hrow.cell 4
          have tw0 := hbox.cell 0
          have tw1 := hbox.cell 1
          have ta2 := (hrow.alloc (.cells #[.int .i64 (x.1.1 : Int), .int .i64 (x.1.2 : Int)] 52)).cell 2
          have ta4 := (hrow.alloc (.cells #[.int .i64 (x.1.1 : Int), .int .i64 (x.1.2 : Int)] 52)).cell 4
          have ta0 := (hbox.alloc (.cells #[.int .i64 (x.1.1 : Int), .int .i64 (x.1.2 : Int)] 52)).cell 0
          have ta1 := (hbox.alloc (.cells #[.int .i64 (x.1.1 : Int), .int .i64 (x.1.2 : Int)] 52)).cell 1
          have tb2 := (hrow.alloc (.cells #[.string x.2] 9)).cell 2
          have tb4 := (hrow.alloc (.cells #[.string x.2] 9)).cell 4
          have tb0 := (hbox.alloc (.cells #[.string x.2] 9)).cell 0
          have tb1 := (hbox.alloc (.cells #[.string x.2] 9)).cell 1
          have tc2 := ((hrow.alloc (.cells #[.int .i64 (x.1.1 : Int), .int .i64 (x.1.2 : Int)] 52)).alloc (.cells #[.string x.2] 9)).cell 2
          have tc4 := ((hrow.alloc (.cells #[.int .i64 (x.1.1 : Int), .int .i64 (x.1.2 : Int)] 52)).alloc (.cells #[.string x.2] 9)).cell 4
          have tc0 := ((hbox.alloc (.cells #[.int .i64 (x.1.1 : Int), .int .i64 (x.1.2 : Int)] 52)).alloc (.cells #[.string x.2] 9)).cell 0
          have tc1 := ((hbox.alloc (.cells #[.int .i64 (x.1.1 : Int), .int .i64 (x.1.2 : Int)] 52)).alloc (.cells #[.string x.2] 9)).cell 1
          have td2 := ((hrow.alloc (.cells #[.string x.2] 9)).alloc (.cells #[.int .i64 (x.1.1 : Int), .int .i64 (x.1.2 : Int)] 52)).cell 2
          have td4 := ((hrow.alloc (.cells #[.string x.2] 9)).alloc (.cells #[.int .i64 (x.1.1 : Int), .int .i64 (x.1.2 : Int)] 52)).cell 4
          have td0 := ((hbox.alloc (.cells #[.string x.2] 9)).alloc (.cells #[.int .i64 (x.1.1 : Int), .int .i64 (x.1.2 : Int)] 52)).cell 0
          have td1 := ((hbox.alloc (.cells #[.string x.2] 9)).alloc (.cells #[.int .i64 (x.1.1 : Int), .int .i64 (x.1.2 : Int)] 52)).cell 1
          have hlt := own_lt HR.out.run.oa
          have hST : S ++ [x] = ST := HST.out.1
          have hMD : md = MD := HST.out.2
          obtain ⟨gA, cA, wA, a1, ga, gD, cD, wD, d1, ⟨ra, rb⟩, ⟨rc, rd⟩, fin1⟩   := two_appsK (st := S) (x := x) (W := (W4.alloc (.cells #[.int .i64 (x.1.1 : Int), .int .i64 (x.1.2 : Int)] 52)).drew) (b1 := W4.heap.size) (fun wA => wA.alloc (.cells #[.string x.2] 9)) (fun wA => wA.heap.size) HR.out.run HR.out.kx HR.out.box HR.out.ba HR.out.bh HLN.out ((Below.refl _ W4).alloc (Nat.le_refl _) _).drew
            (heap_alloc_new _ _) (fun wA => (Below.refl _ wA).alloc (Nat.le_refl _) _) (fun wA _ => heap_alloc_new _ _)
          have k1 := rc.cell 1
          have j1 := rc.free 1
          have k2 := rc.cell 2
          have j2 := rc.free 2
          have k4 := rc.cell 4
          have j4 := rc.free 4
          have l2 := ra.cell 2
          have l3 := (ra.alloc (.cells #[.string x.2] 9)).cell 2
          rw [hST, hMD] at fin1
          have F1 := Lib.hid fin1
          clear fin1 ra rb rc rd ga
          obtain ⟨gA, cA, wA, a1, ga, gD, cD, wD, d1, ⟨ra, rb⟩, ⟨rc, rd⟩, fin1⟩   := two_appsK (st := S) (x := x) (W := ((W4.alloc (.cells #[.int .i64 (x.1.1 : Int), .int .i64 (x.1.2 : Int)] 52)).alloc (.cells #[.string x.2] 9)).drew) (b1 := W4.heap.size) (fun wA => wA) (fun wA => W4.heap.size + 1) HR.out.run HR.out.kx HR.out.box HR.out.ba HR.out.bh HLN.out (((Below.refl _ W4).alloc (Nat.le_refl _) _).alloc (by simp) _).drew
            (heap_keep _ _ _ (heap_alloc_new _ _)) (fun wA => Below.refl _ wA) (fun wA g => heap_grown g (heap_new_at _ _ (by simp)) (grown_lt hlt (by omega)))
          have k1 := rc.cell 1
          have j1 := rc.free 1
          have k2 := rc.cell 2
          have j2 := rc.free 2
          have k4 := rc.cell 4
          have j4 := rc.free 4
          have l2 := ra.cell 2
          have l3 := (ra.alloc (.cells #[.string x.2] 9)).cell 2
          rw [hST, hMD] at fin1
          have F2 := Lib.hid fin1
          clear fin1 ra rb rc rd ga
          obtain ⟨gA, cA, wA, a1, ga, gD, cD, wD, d1, ⟨ra, rb⟩, ⟨rc, rd⟩, fin1⟩   := two_appsK (st := S) (x := x) (W := ((W4.alloc (.cells #[.string x.2] 9)).alloc (.cells #[.int .i64 (x.1.1 : Int), .int .i64 (x.1.2 : Int)] 52)).drew) (b1 := W4.heap.size + 1) (fun wA => wA) (fun wA => W4.heap.size) HR.out.run HR.out.kx HR.out.box HR.out.ba HR.out.bh HLN.out (((Below.refl _ W4).alloc (Nat.le_refl _) _).alloc (by simp) _).drew
            (heap_new_at _ _ (by simp)) (fun wA => Below.refl _ wA) (fun wA g => heap_grown g (heap_keep _ _ _ (heap_alloc_new _ _)) (grown_lt hlt (by omega)))
          have k1 := rc.cell 1
          have j1 := rc.free 1
          have k2 := rc.cell 2
          have j2 := rc.free 2
          have k4 := rc.cell 4
          have j4 := rc.free 4
          have l2 := ra.cell 2
          have l3 := (ra.alloc (.cells #[.string x.2] 9)).cell 2
          rw [hST, hMD] at fin1
          have F3 := Lib.hid fin1
          clear fin1 ra rb rc rd ga
          clear hlt hrow hbox hST hMD
          go_region
          all_goals go_wp2
          all_goals go_end0
          all_goals first | exact ⟨rfl, _, _, _, F1.out _⟩ | exact ⟨rfl, _, _, _, F2.out _⟩ | exact ⟨rfl, _, _, _, F3.out _⟩
end Go.Proofs.YtahkpcbemnfllaaDoor.CompK
