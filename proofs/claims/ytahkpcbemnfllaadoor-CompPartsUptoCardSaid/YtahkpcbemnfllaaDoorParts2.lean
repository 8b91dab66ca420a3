/- leaves, live, place, pushed: their walks. -/
import Derived.Test.YtahkpcbemnfllaaDoorParts1
import Derived.Test.YtahkpcbemnfllaaDoorMerge2
set_option linter.unusedVariables false
set_option linter.unusedSimpArgs false
namespace Go.Proofs.YtahkpcbemnfllaaDoor.Comp
open Go.RowKit Go.Proofs.YtahkpcbemnfllaaDoor.Base Go.Proofs.YtahkpcbemnfllaaDoor.Mem Go.Proofs.YtahkpcbemnfllaaDoor.Strs Go.Proofs.YtahkpcbemnfllaaDoor.ShaDig Go.Proofs.YtahkpcbemnfllaaDoor.TreeHash Go.Proofs.YtahkpcbemnfllaaDoor.Cov
open Go.Proofs.YtahkpcbemnfllaaDoor.Lst (OwnA Adr OwnA.shape Kp own_below Lst ac ac_append ac_length infoAddr own_lt own_base own_shape own_kp)

set_option maxHeartbeats 1000000 in
theorem leaves_calls (k : Int) (A : Option Addr) (n c : Nat) (ss : List ByteArray) (w : World) (hS : Strs w A n ss) (hn : n ≤ 1048576) (hs : ∀ s ∈ ss, s.size ≤ 200000000000000) (hT : Tab w) :
    Calls Tryd.prog 27 #[.int .i64 k, .slice A n c] w (fun e w' => ∃ v, e = .returned v ∧ Strs.Own w' w.heap.size v (ss.map (leafH k)) ∧ Below w.heap.size w w') := by
  have HS0 := Lib.hid hS
  have hl := Lib.hid hS.len
  have HT := Lib.hid hT
  have HZ := Lib.hid hs
  clear hS hT hs
  go_enter Tryd.func27, Tryd.ntmps27
  go_wp2
  go_loopw [5, 6] (fun s i wr => ∃ (v : Value) (j : Nat), v = s ∧ i = .int .i64 (j : Int) ∧ j ≤ n ∧ Hid (Strs.Own wr w.heap.size v ((ss.take j).map (leafH k))) ∧ Hid (Below w.heap.size w wr)) (fun _ i _ => n - (intOf i).toNat)
  case atStart => exact ⟨_, 0, rfl, rfl, by omega, Lib.hid (by rw [List.take_zero]; exact Strs.Own.nil _ _), Lib.hid (Below.refl _ _)⟩
  case round =>
    obtain ⟨v, j, rfl, rfl, hj, ho, hb⟩ := hrel
    by_cases hlt : j < n
    · obtain ⟨ad, rfl, _, hcell⟩ := (HS0.out.below hb.out).at_ j hlt
      have htk : (ss.take (j + 1)).map (leafH k) = (ss.take j).map (leafH k) ++ [leafH k (ss.getD j ⟨#[]⟩)] := by
        rw [List.take_succ_eq_append_getElem (by rw [hl.out]; exact hlt), List.map_append]
        simp [List.getD_eq_getElem?_getD, hl.out, hlt]
      have HTK := Lib.hid htk
      have hjl : ((ss.take j).map (leafH k)).length + 1 ≤ 8796093022208 := by rw [List.length_map, List.length_take]; omega
      have HJL := Lib.hid hjl
      have hx : (ss.getD j ⟨#[]⟩).size ≤ 200000000000000 := by
        rw [List.getD_eq_getElem?_getD, List.getElem?_eq_getElem (by rw [hl.out]; exact hlt)]
        exact HZ.out _ (List.getElem_mem _)
      have j0 : (0 : Int) ≤ (j : Int) := by omega
      have j1 : (j : Int) < (n : Int) := by omega
      have HLF := Lib.hid (leaf_calls k (ss.getD j ⟨#[]⟩) hx wr (HT.out.below hb.out))
      clear htk hjl hx
      generalize ss.getD j ⟨#[]⟩ = x at *
      go_wp2_with fail
      refine HLF.out.mono ?_
      rintro e w3 ⟨rfl, b3⟩
      have HB3 := Lib.hid (chain hb.out b3)
      have HO3 := Lib.hid (ho.out.below b3)
      clear b3 hcell
      go_wp2_with (at_builtin; refine wpList_app1 w.heap.size rfl (.tmp 20) (.tmp 22) rfl v _ (leafH k x) rfl rfl HO3.out HB3.out HB3.out.size HJL.out ?_; intro v2 w4 ho2 hb2 _ _; rw [← HTK.out] at ho2; have HO4 := Lib.hid ho2; have HB4 := Lib.hid hb2; clear ho2 hb2)
      go_roundw
      case rel => exact ⟨_, j + 1, rfl, by go_num, by omega, HO4, HB4⟩
      case measure => simp only [intOf]; omega
    · obtain rfl : j = n := by omega
      have ho' := ho.out
      rw [List.take_of_length_le (by rw [hl.out]; omega)] at ho'
      have HF := Lib.hid (And.intro ho' hb.out)
      clear ho ho' hb
      go_wp2
      go_ret
      exact ⟨_, rfl, HF.out.1, HF.out.2⟩
/-- Where so many leaves can go. -/
def placeN (z : Int) (n : Nat) : Nat := if z < 0 ∨ 4611686018427387904 - (n : Int) < z then 0 else z.toNat
theorem placeN_le (z : Int) (n : Nat) (hn : n ≤ 1048576) : placeN z n + n ≤ 4611686018427387904 := by unfold placeN; split <;> omega
theorem place_calls (z : Int) (n : Nat) (hn : n ≤ 1048576) (w : World) : Calls Tryd.prog 28 #[.int .i64 z, .int .i64 (n : Int)] w (fun e w' => e = .returned (.int .i64 (placeN z n : Int)) ∧ w = w') := by
  have hw : IntKind.i64.wrap (4611686018427387904 - (n : Int)) = 4611686018427387904 - (n : Int) := IntWalk.i64_in _ (by omega)
  by_cases h1 : z < 0
  · have e : (placeN z n : Int) = 0 := by unfold placeN; rw [if_pos (.inl h1)]; rfl
    rw [e]
    go_enter Tryd.func28, Tryd.ntmps28
    go_wp2
    go_ret
    exact ⟨rfl, rfl⟩
  · have d1 : decide (z < 0) = false := decide_eq_false h1
    by_cases h2 : 4611686018427387904 - (n : Int) < z
    · have e : (placeN z n : Int) = 0 := by unfold placeN; rw [if_pos (.inr h2)]; rfl
      rw [e]
      go_enter Tryd.func28, Tryd.ntmps28
      go_wp2
      go_ret
      exact ⟨rfl, rfl⟩
    · have e : (placeN z n : Int) = z := by unfold placeN; rw [if_neg (by omega)]; omega
      have d2 : decide (4611686018427387904 - (n : Int) < z) = false := decide_eq_false h2
      rw [e]
      go_enter Tryd.func28, Tryd.ntmps28
      go_wp2
      go_ret
      exact ⟨rfl, rfl⟩
theorem live_calls (w : World) : Calls Tryd.prog 30 #[] w (fun e w' => e = .returned (.bool true) ∧ Below w.heap.size w w') := by
  have hc : Nums.ctz 12 = 2 := by rw [Nums.ctz_even (by decide) (by decide), Nums.ctz_even (by decide) (by decide), Nums.ctz_odd (by decide)]
  have HZ : Hid (∀ W, Calls Tryd.prog 49 #[.int .i64 12] W (fun e w' => e = .returned (.int .i64 2) ∧ W = w')) := Lib.hid (fun W => by
    have := Nums.zeros_nat 12 W (by omega) (by omega)
    rw [hc] at this
    exact this)
  have HS := Lib.hid (fun W => mstart_calls 5 W)
  have e1 : startL 5 = 5 ∧ startE 5 = 0 := by decide
  unfold Started at HS
  rw [e1.1, e1.2] at HS
  clear hc e1
  go_enter Tryd.func30, Tryd.ntmps30
  go_wp2_with fail
  refine (HS.out _).mono ?_
  rintro e w1 ⟨rfl, b1⟩
  have b2 := (Below.refl _ w1).alloc (Nat.le_refl _) (.cells #[.int .i64 5, .int .i64 5, .slice none 0 0] 24)
  have HB := Lib.hid (chain b1 b2)
  have r1 := Row.new w1 #[.int .i64 5, .int .i64 5, .slice none 0 0] 24
  have c0 := r1.cell 0
  have c1 := r1.cell 1
  have c2 := r1.cell 2
  clear b1 b2 r1
  go_wp2_with (go_at_call 49; ((with_reducible refine (HZ.out _).mono ?_); rintro e w' ⟨rfl, rfl⟩))
  go_ret
  exact ⟨by simp, HB.out⟩
/-! ### pushed -/
/-- append(v, ys...) of nodes. -/
theorem run_appRowM {W : World} (t : TypeId) (base : Nat) (v : Value) (md ys : List Md) (B : Option Addr) (m c : Nat) (HO : OwnM W base v md) (HR : Mds W B m ys) (hbase : base ≤ W.heap.size) (hl : md.length + m ≤ 4398046511000) :
    ∃ v1 w1, (Builtin.append_ #[40, 40] t #[v, .slice B m c]).run Tryd.prog W = .ok v1 w1 ∧ OwnM w1 base v1 (md ++ ys) ∧ W.grownBy w1 v.ownBlock ∧ (v1.ownBlock = v.ownBlock ∨ v1.ownBlock = some W.heap.size) := by
  obtain ⟨i, hi, hz, hsz, hby⟩ := info_parts infoMade
  have hm : ys.length = m := HR.1
  rcases B with _ | ad
  · have h0 : m = 0 := by
      rcases Nat.eq_zero_or_pos m with h0 | h0
      · exact h0
      · have := HR.at_ 0 h0
        obtain ⟨ad, h, _⟩ := this
        cases h
    subst h0
    obtain rfl : ys = [] := List.eq_nil_of_length_eq_zero hm
    refine ⟨v, W, ?_, by rw [List.append_nil]; exact HO, World.grownBy.refl W _, .inl rfl⟩
    have ht := Tryd.underlying40
    rcases HO.2 with ⟨rfl, hn⟩ | ⟨g, cap, cur, rfl, _, _, hnc, _⟩
    · simp [Builtin.append_, run_underlying ht, sizeOf, typeInfo, hi, Builtin.lenOf, Builtin.firstCells]
    · simp [Builtin.append_, run_underlying ht, sizeOf, typeInfo, hi, Builtin.lenOf, Builtin.firstCells, hnc, storeCells]
  · have hcells : ∀ j u, (mdc ys)[j]? = some u → W.cell? (ad.add j) = some u := by
      intro j u hu
      have hp : 0 < m := by
        rcases Nat.lt_or_ge j (mdc ys).length with h | h
        · rw [mdc_length] at h; omega
        · rw [List.getElem?_eq_none h] at hu; cases hu
      obtain ⟨ad', h', _, hc⟩ := HR.2 hp
      cases h'
      exact hc j u hu
    obtain ⟨v1, w1, hr, h2, h3, _, h5⟩ := run_append_own_at (P := Tryd.prog) W base 40 t 54 i _ 3 32 Tryd.underlying40 hi hz hsz hby rfl (by omega) v md.length (mdc md) HO ad m c (mdc ys) (by rw [mdc_length, hm]) hcells
      (mdc_one ys) (by simp only [maxLen]; omega) (by omega) hbase
    refine ⟨v1, w1, hr, ?_, h3, h5⟩
    unfold OwnM
    rw [List.length_append, mdc_append, hm]
    exact h2
section
variable {ops : Array Oper} {rest : List Oper} {o : Oper} {a : Act} {W : World} {Q : Exit → Act → World → Prop}
theorem wpList_appRowM (hgd : o.guard = none) (s x : Operand) (ho : o.op = .call { callee := .builtin .append, args := #[s, x], argTypes := #[40, 40] })
    (base : Nat) (v : Value) (md ys : List Md) (B : Option Addr) (m c : Nat) (hs : a.eval s = v) (hx : a.eval x = .slice B m c)
    (HO : OwnM W base v md) (HR : Mds W B m ys) (hbase : base ≤ W.heap.size) (hl : md.length + m ≤ 4398046511000)
    (h : ∀ v1 w1, OwnM w1 base v1 (md ++ ys) → W.grownBy w1 v.ownBlock → (v1.ownBlock = v.ownBlock ∨ v1.ownBlock = some W.heap.size) → wpList Tryd.prog ops Q rest (a.put o.dst v1) w1) :
    wpList Tryd.prog ops Q (o :: rest) a W := by
  obtain ⟨v1, w1, hr, hown, hg, hat⟩ := run_appRowM o.type base v md ys B m c HO HR hbase hl
  refine wpList_plain hgd fun K hK => ?_
  unfold Oper.wp execOp
  simp only [ho, resolve, invoke, builtin, Sem.run_bind, Sem.run_pure, Result.andThen_ok, List.map_toArray, List.map_cons, List.map_nil, hs, hx, hr]
  exact hK _ _ (h v1 w1 hown hg hat)
end
/-- Between two pushes. -/
structure Psh (w : World) (R Fb base : Nat) (k : Int) (f : Nat → ByteArray) (lo j : Nat) (v vf : Value) (md : List Md) (W : World) : Prop where
  bel : Below w.heap.size w W
  wR : w.heap.size ≤ R
  wF : w.heap.size ≤ Fb
  bR : R < base
  bF : Fb < base
  rF : R ≠ Fb
  bs : base ≤ W.heap.size
  rr : Row W R #[.int .i64 0, .int .i64 0, .slice none 0 0] 24
  rf : Row W Fb #[.int .i64 (lo : Int), .int .i64 ((lo + j : Nat) : Int), vf] 24
  fs : Strs.Own W base vf (hs k f lo (lo + j))
  own : OwnM W base v md
  len : md.length + (greedy lo (lo + j)).length = j
  ap : ∀ b, v.ownBlock = some b → vf.ownBlock ≠ some b
theorem Psh.step {w W : World} {R Fb base : Nat} {k : Int} {f : Nat → ByteArray} {lo j : Nat} {v vf : Value} {md : List Md} (h : Psh w R Fb base k f lo j v vf md W) {W5 : World} (b5 : Below W.heap.size W W5) {vh vm : Value} {ma : List Md}
    (oh : Strs.Own W5 W.heap.size vh (hs k f lo (lo + (j + 1)))) (om : OwnM W5 W.heap.size vm ma) (hap : Apart vh vm) (hml : ma.length + (greedy lo (lo + (j + 1))).length = (greedy lo (lo + j)).length + 1) :
    let W6 := ((W5.setCell ⟨Fb, 0, none⟩ (.int .i64 (lo : Int))).setCell ⟨Fb, 1, none⟩ (.int .i64 ((lo + (j + 1) : Nat) : Int))).setCell ⟨Fb, 2, none⟩ vh
    OwnM W6 base v md ∧ OwnM W6 base vm ma ∧ base ≤ W6.heap.size ∧ ∀ v1 W7, OwnM W7 base v1 (md ++ ma) → W6.grownBy W7 v.ownBlock → (v1.ownBlock = v.ownBlock ∨ v1.ownBlock = some W6.heap.size) → Psh w R Fb base k f lo (j + 1) v1 vh (md ++ ma) W7 := by
  have hF : Fb < W.heap.size := h.rf.lt
  have far : ∀ (u : Value), (∀ b, u.ownBlock = some b → W.heap.size ≤ b) → ∀ i : Nat, u.ownBlock ≠ some (⟨Fb, i, none⟩ : Addr).block := fun u hu i e => by have := hu _ e; show False; have e2 : (⟨Fb, i, none⟩ : Addr).block = Fb := rfl; omega
  have fv0 : ∀ i : Nat, v.ownBlock ≠ some (⟨Fb, i, none⟩ : Addr).block := fun i e => by have := own_base h.own _ e; have e2 : (⟨Fb, i, none⟩ : Addr).block = Fb := rfl; have := h.bF; omega
  have hbs := h.bs
  intro W6
  have s6 : W6.heap.size = W5.heap.size := by simp [W6, World.setCell]
  have o1 : OwnM W6 base v md := ownsRow_setCell_other (ownsRow_setCell_other (ownsRow_setCell_other (own_below h.own b5) (fv0 0) _) (fv0 1) _) (fv0 2) _
  have o2 : OwnM W6 W.heap.size vm ma := ownsRow_setCell_other (ownsRow_setCell_other (ownsRow_setCell_other om (far vm (own_base om) 0) _) (far vm (own_base om) 1) _) (far vm (own_base om) 2) _
  have o3 : Strs.Own W6 W.heap.size vh (hs k f lo (lo + (j + 1))) := ownsRow_setCell_other (ownsRow_setCell_other (ownsRow_setCell_other oh (far vh (own_base oh) 0) _) (far vh (own_base oh) 1) _) (far vh (own_base oh) 2) _
  have r1 : Row W6 R #[.int .i64 0, .int .i64 0, .slice none 0 0] 24 := (((h.rr.below b5 h.rr.lt).far ⟨Fb, 0, none⟩ h.rF _).far ⟨Fb, 1, none⟩ h.rF _).far ⟨Fb, 2, none⟩ h.rF _
  have r2 : Row W6 Fb #[.int .i64 (lo : Int), .int .i64 ((lo + (j + 1) : Nat) : Int), vh] 24 := (((h.rf.below b5 hF).set 0 (.int .i64 (lo : Int))).set 1 (.int .i64 ((lo + (j + 1) : Nat) : Int))).set 2 vh
  have b6 : Below w.heap.size w W6 := (((chain h.bel b5).setCell (p := ⟨Fb, 0, none⟩) h.wF _).setCell (p := ⟨Fb, 1, none⟩) h.wF _).setCell (p := ⟨Fb, 2, none⟩) h.wF _
  have hs5 := b5.size
  refine ⟨o1, Lst.own_down o2 hbs, by omega, fun v1 W7 h1 h2 h3 => ?_⟩
  have nb : ∀ q, q < base → some q ≠ v.ownBlock := fun q hq e => by have := own_base h.own q e.symm; omega
  have hvb : ∀ b, v.ownBlock = some b → b < W.heap.size := fun b e => own_lt h.own b e
  exact {
    bel := b6.grown h2 (by rw [s6]; have := h.bel.size; omega) (fun q e => by have := own_base h.own q e; have := h.wR; have := h.bR; omega)
    wR := h.wR
    wF := h.wF
    bR := h.bR
    bF := h.bF
    rF := h.rF
    bs := by have := h2.size; omega
    rr := r1.kept h2 (nb _ h.bR)
    rf := r2.kept h2 (nb _ h.bF)
    fs := Strs.own_down (base := W.heap.size) (World.ownsRow.kept o3 h2 (by
      cases hq : vh.ownBlock with
      | none => exact .inl rfl
      | some b => exact .inr fun e => by have := own_base oh b hq; have := hvb b e.symm; omega)) hbs
    own := h1
    len := by rw [List.length_append]; have := h.len; omega
    ap := fun b e1 e2 => by
      have hb := own_base oh b e2
      have hb5 := own_lt oh b e2
      rcases h3 with h3 | h3
      · rw [h3] at e1; have := hvb b e1; omega
      · rw [h3] at e1; injection e1 with e1; omega }
def Pushed (k : Int) (f : Nat → ByteArray) (lo n : Nat) (w : World) (e : Ending) (w' : World) : Prop :=
  ∃ B m c M B2 c2, e = .returned (.tuple #[fv (lo : Int) ((lo + n : Nat) : Int) B m c, .slice B2 M c2, .bool true]) ∧ Strs w' B m (hs k f lo (lo + n)) ∧ m ≤ c ∧ M + (greedy lo (lo + n)).length = n ∧ Below w.heap.size w w'
theorem Psh.start {w W : World} (k : Int) (f : Nat → ByteArray) (lo : Nat) (b : Below w.heap.size w W) (r1 : Row W w.heap.size #[.int .i64 0, .int .i64 0, .slice none 0 0] 24) :
    Psh w w.heap.size W.heap.size (W.heap.size + 1) k f lo 0 (.slice none 0 0) (.slice none 0 0) [] (W.alloc (.cells #[.int .i64 (lo : Int), .int .i64 (lo : Int), .slice none 0 0] 24)) := by
  have h1 := r1.lt
  exact {
    bel := b.alloc b.size _
    wR := Nat.le_refl _
    wF := b.size
    bR := by omega
    bF := by omega
    rF := by omega
    bs := by simp
    rr := r1.alloc _
    rf := Row.new _ _ _
    fs := by rw [show lo + 0 = lo from rfl, hs_empty]; exact Strs.Own.nil _ _
    own := World.ownsRow_nil _ _ _ _
    len := by rw [greedy_end (by omega)]; rfl
    ap := fun b e => by simp [Value.ownBlock] at e }
set_option maxRecDepth 100000 in
set_option maxHeartbeats 4000000 in
theorem pushed_calls (k : Int) (f : Nat → ByteArray) (hf : ∀ p, (f p).size = wid k) (lo n : Nat) (hlo : lo + n ≤ 4611686018427387904) (A : Option Addr) (c : Nat) (ss : List ByteArray) (w : World) (hS : Strs w A n ss) (hss : ∀ i, i < n → ss.getD i ⟨#[]⟩ = f (lo + i)) (hn : n ≤ 1048576) (hT : Tab w) :
    Calls Tryd.prog 29 #[.int .i64 k, .int .i64 (lo : Int), .slice A n c] w (Pushed k f lo n w) := by
  have HS := Lib.hid hS
  have HF := Lib.hid hf
  have HSS := Lib.hid hss
  have HT := Lib.hid hT
  have HST := Lib.hid (fun W => mstart_calls (lo : Int) W)
  have e1 : startL (lo : Int) = (lo : Int) ∧ startE (lo : Int) = 0 := by unfold startL startE; rw [if_neg (by omega), if_neg (by omega)]; exact ⟨rfl, rfl⟩
  unfold Started at HST
  rw [e1.1, e1.2] at HST
  have r1 := Row.new w #[.int .i64 0, .int .i64 0, .slice none 0 0] 24
  have hb0 : Below w.heap.size w (w.alloc (.cells #[.int .i64 0, .int .i64 0, .slice none 0 0] 24)) := (Below.refl _ w).alloc (Nat.le_refl _) _
  have HR1 := Lib.hid r1
  have HB0 := Lib.hid hb0
  clear hS hf hss hT e1 r1 hb0
  go_enter Tryd.func29, Tryd.ntmps29
  go_wp2_with fail
  refine (HST.out _).mono ?_
  rintro e w1 ⟨rfl, b1⟩
  have HP0 := Lib.hid (Psh.start k f lo (HB0.out.trans (b1.mono HB0.out.size)) (HR1.out.below b1 HR1.out.lt))
  clear b1
  go_wp2_with fail
  go_loopw [11, 12] (fun s i wr => ∃ (v vf : Value) (j : Nat) (md : List Md), v = s ∧ i = .int .i64 (j : Int) ∧ j ≤ n ∧ Hid (Psh w w.heap.size w1.heap.size (w1.heap.size + 1) k f lo j v vf md wr)) (fun _ i _ => n - (intOf i).toNat)
  case atStart => exact ⟨_, _, 0, [], rfl, rfl, by omega, HP0⟩
  case round =>
    clear HP0
    obtain ⟨v, vf, j, md, rfl, rfl, hj, hp⟩ := hrel
    obtain ⟨B, c3, rfl, hmc, hfs⟩ := hp.out.fs.shape
    obtain ⟨m3, hm3⟩ : ∃ m3, (hs k f lo (lo + j)).length = m3 := ⟨_, rfl⟩
    rw [hm3] at hp hmc hfs
    by_cases hlt : j < n
    · obtain ⟨ad, rfl, hadb, hcell⟩ := (HS.out.below hp.out.bel).at_ j hlt
      obtain ⟨ma, hma, hans⟩ := push_ans HF.out (show lo ≤ lo + j by omega) (show lo + j < 4611686018427387904 by omega)
      have hm122 : m3 ≤ 122 := by rw [← hm3, hs_length]; exact greedy_len _ _ (by omega) (by omega)
      rw [HSS.out j hlt] at hcell
      have hlen := hp.out.len
      have hma2 : ma.length ≤ 123 := by have := greedy_len lo (lo + j) (by omega) (by omega); omega
      have HPU : Hid (∀ W, Below wr.heap.size wr W → Calls Tryd.prog 19 #[.int .i64 k, fv (lo : Int) ((lo + j : Nat) : Int) B m3 c3, .string (f (lo + j))] W (fun e w' => ∃ vh vm, e = .returned (.tuple #[.agg #[.int .i64 (lo : Int), .int .i64 ((lo + (j + 1) : Nat) : Int), vh], vm, .int .i64 0]) ∧ Strs.Own w' W.heap.size vh (hs k f lo (lo + (j + 1))) ∧ OwnM w' W.heap.size vm ma ∧ Apart vh vm ∧ Below W.heap.size W w')) :=
        Lib.hid (fun W hW => by
          have := mpush_calls k (lo : Int) ((lo + j : Nat) : Int) B m3 c3 (hs k f lo (lo + j)) (f (lo + j)) W (hfs.below hW) hmc (by omega) (HT.out.below (chain hp.out.bel hW))
          rw [hans W] at this
          exact this)
      have HML : Hid (ma.length + (greedy lo (lo + (j + 1))).length = (greedy lo (lo + j)).length + 1) := Lib.hid hma
      obtain ⟨LH, hLH⟩ : ∃ LH, (hs k f lo (lo + (j + 1))).length = LH := ⟨_, rfl⟩
      have HLH := Lib.hid hLH
      have HP := Lib.hid hp.out
      have HC : Hid (∀ W, Below wr.heap.size wr W → W.cell? ⟨w1.heap.size, 0, none⟩ = some (.int .i64 (lo : Int)) ∧ W.cell? ⟨w1.heap.size, 1, none⟩ = some (.int .i64 ((lo + j : Nat) : Int)) ∧ W.cell? ⟨w1.heap.size, 2, none⟩ = some (.slice B m3 c3) ∧ W.cell? (ad.add j) = some (.string (f (lo + j)))) := Lib.hid (fun W hW => by
        have r := HP.out.rf.below hW HP.out.rf.lt
        exact ⟨r.cell 0, r.cell 1, r.cell 2, (hW.cell (by rw [Strs.add_block]; exact hadb)).trans hcell⟩)
      have q0 := hp.out.rf.cell 0
      have q1 := hp.out.rf.cell 1
      have q2 := hp.out.rf.cell 2
      have j0 : (0 : Int) ≤ (j : Int) := by omega
      have j1 : (j : Int) < (n : Int) := by omega
      clear hLH hma hans hp hfs hadb hm3
      generalize f (lo + j) = x at *
      obtain ⟨P0, hP0⟩ : ∃ P0 : Int, ((lo + j : Nat) : Int) = P0 := ⟨_, rfl⟩
      obtain ⟨P1, hP1⟩ : ∃ P1 : Int, ((lo + (j + 1) : Nat) : Int) = P1 := ⟨_, rfl⟩
      rw [hP0] at HPU HC q1
      rw [hP1] at HPU
      have HP1 := Lib.hid hP1
      clear hP0 hP1
      go_wp2_with fail
      go_region_held3 (fun W => W.cell? ⟨w1.heap.size, 0, none⟩ = some (.int .i64 (lo : Int)) ∧ W.cell? ⟨w1.heap.size, 1, none⟩ = some (.int .i64 P0) ∧ W.cell? ⟨w1.heap.size, 2, none⟩ = some (.slice B m3 c3) ∧ W.cell? (ad.add j) = some (.string x)) (first | go_keep | exact HC.out _ B4 | exact HC.out _ (B4.alloc B4.size _) | exact HC.out _ (((B4.setCell (Nat.le_refl _) _).setCell (Nat.le_refl _) _).setCell (Nat.le_refl _) _) | exact HC.out _ (((Below.refl _ _).alloc (Nat.le_refl _) _).drew))
        ((go_at_call 19; (with_reducible refine (HPU.out _ (by first | exact (Below.refl _ _).drew | exact ((Below.refl _ _).alloc (Nat.le_refl _) _).drew)).mono ?_); rintro e w4 ⟨vh, vm, rfl, oh, om, hap, b4⟩; have HAP := Lib.hid hap; obtain ⟨A4, c4, e4, hc4, _⟩ := oh.shape; rw [HLH.out] at e4; subst e4; obtain ⟨A5, c5, e5, hc5, hm5, _⟩ := own_mds om; obtain ⟨M5, hM5⟩ : ∃ M5, ma.length = M5 := ⟨_, rfl⟩; rw [hM5] at e5; have HM5 := Lib.hid hM5; clear hM5 hc5 hm5; subst e5; have B4 : Below wr.heap.size wr w4 := (by first | exact chain (Below.refl _ _).drew b4 | exact chain ((Below.refl _ _).alloc (Nat.le_refl _) _).drew b4); (first | (have rz := Row.below (Row.drew (Row.new wr #[.int .i64 0, .int .i64 0, .slice none 0 0] 24)) b4 (by simp); have g0 := rz.cell 0; have g1 := rz.cell 1; have g2 := rz.cell 2; have g3 := rz.free 0; have g4 := rz.free 1; have g5 := rz.free 2; clear rz) | skip); have HO4 := Lib.hid oh; have HM4 := Lib.hid om; have HB4 := Lib.hid b4; clear oh om b4 hap))
      · have bA := B4.alloc B4.size (.cells #[.int .i64 (lo : Int), .int .i64 P1, .slice A4 LH c4] 24)
        have HRG := Lib.hid (Row.new w4 #[.int .i64 (lo : Int), .int .i64 P1, .slice A4 LH c4] 24)
        have HO5 : Hid (Strs.Own (w4.alloc (.cells #[.int .i64 (lo : Int), .int .i64 P1, .slice A4 LH c4] 24)) wr.heap.size (.slice A4 LH c4) (hs k f lo (lo + (j + 1)))) := Lib.hid (World.ownsRow.alloc HO4.out _)
        have HM5' : Hid (OwnM (w4.alloc (.cells #[.int .i64 (lo : Int), .int .i64 P1, .slice A4 LH c4] 24)) wr.heap.size (.slice A5 M5 c5) ma) := Lib.hid (World.ownsRow.alloc HM4.out _)
        have HB5 := Lib.hid bA
        clear bA B4 HO4 HM4 HB4
        obtain ⟨W5, hW5⟩ : ∃ W5, w4.alloc (.cells #[.int .i64 (lo : Int), .int .i64 P1, .slice A4 LH c4] 24) = W5 := ⟨_, rfl⟩
        rw [hW5] at HRG HO5 HM5' HB5 ⊢
        clear hW5
        obtain ⟨k1, k2, k3, k4⟩ := HP.out.step HB5.out HO5.out HM5'.out HAP.out HML.out
        rw [HP1.out] at k1 k2 k3 k4
        have hm9 : Mds (((W5.setCell ⟨w1.heap.size, 0, none⟩ (.int .i64 (lo : Int))).setCell ⟨w1.heap.size, 1, none⟩ (.int .i64 P1)).setCell ⟨w1.heap.size, 2, none⟩ (.slice A4 LH c4)) A5 M5 ma := by
          obtain ⟨_, _, e9, _, hm9, _⟩ := own_mds k2
          simp only [Value.slice.injEq] at e9
          obtain ⟨rfl, e10, rfl⟩ := e9
          rw [HM5.out] at hm9
          exact hm9
        have HK1 := Lib.hid k1
        have HK3 := Lib.hid k3
        have HK4 := Lib.hid k4
        have HM9 := Lib.hid hm9
        have HMB : Hid (md.length + M5 ≤ 4398046511000) := Lib.hid (by have := HM5.out; omega)
        have rf5 := HP.out.rf.below HB5.out HP.out.rf.lt
        have y0 := rf5.cell 0
        have y1 := rf5.cell 1
        have y2 := rf5.cell 2
        have y3 := rf5.free 0
        have y4 := rf5.free 1
        have y5 := rf5.free 2
        have v0 := HRG.out.cell 0
        have v1 := HRG.out.cell 1
        have v2 := HRG.out.cell 2
        clear k1 k2 k3 k4 hm9 rf5 q0 q1 q2 HC HPU
        go_wp2_with (at_builtin; refine wpList_appRowM rfl (.tmp 45) (.tmp 46) rfl (w1.heap.size + 1) v md ma A5 M5 c5 rfl rfl HK1.out HM9.out HK3.out HMB.out ?_; intro v7 w7 t1 t2 t3; have HN := Lib.hid (HK4.out v7 w7 t1 t2 t3); clear t1 t2 t3)
        go_roundw
        case rel => exact ⟨v7, .slice A4 LH c4, j + 1, md ++ ma, rfl, by go_num, by omega, HN⟩
        case measure => simp only [intOf]; omega
      · have rz := Row.below (Row.drew (Row.new wr #[.int .i64 0, .int .i64 0, .slice none 0 0] 24)) HB4.out (by simp)
        have bB := ((B4.setCell (p := ⟨wr.heap.size, 0, none⟩) (Nat.le_refl _) (.int .i64 (lo : Int))).setCell (p := ⟨wr.heap.size, 1, none⟩) (Nat.le_refl _) (.int .i64 P1)).setCell (p := ⟨wr.heap.size, 2, none⟩) (Nat.le_refl _) (.slice A4 LH c4)
        have HRG := Lib.hid (((rz.set 0 (.int .i64 (lo : Int))).set 1 (.int .i64 P1)).set 2 (.slice A4 LH c4))
        have hsz : (wr.alloc (.cells #[.int .i64 0, .int .i64 0, .slice none 0 0] 24)).drew.heap.size = wr.heap.size + 1 := by simp
        have hoff : ∀ (u : Value), (∀ b, u.ownBlock = some b → wr.heap.size + 1 ≤ b) → ∀ i : Nat, u.ownBlock ≠ some (⟨wr.heap.size, i, none⟩ : Addr).block := fun u hu i e => by
          have h1 := hu _ e
          have h2 : (⟨wr.heap.size, i, none⟩ : Addr).block = wr.heap.size := rfl
          omega
        have hA := hoff (.slice A4 LH c4) (fun b e => by have := own_base HO4.out b e; rw [hsz] at this; exact this)
        have hB := hoff (.slice A5 M5 c5) (fun b e => by have := own_base HM4.out b e; rw [hsz] at this; exact this)
        have HO5 := Lib.hid (Lst.own_down (base' := wr.heap.size) (ownsRow_setCell_other (a := ⟨wr.heap.size, 2, none⟩) (ownsRow_setCell_other (a := ⟨wr.heap.size, 1, none⟩) (ownsRow_setCell_other (a := ⟨wr.heap.size, 0, none⟩) HO4.out (hA 0) (.int .i64 (lo : Int))) (hA 1) (.int .i64 P1)) (hA 2) (.slice A4 LH c4)) (by rw [hsz]; omega))
        have HM5' := Lib.hid (Lst.own_down (base' := wr.heap.size) (ownsRow_setCell_other (a := ⟨wr.heap.size, 2, none⟩) (ownsRow_setCell_other (a := ⟨wr.heap.size, 1, none⟩) (ownsRow_setCell_other (a := ⟨wr.heap.size, 0, none⟩) HM4.out (hB 0) (.int .i64 (lo : Int))) (hB 1) (.int .i64 P1)) (hB 2) (.slice A4 LH c4)) (by rw [hsz]; omega))
        have HB5 := Lib.hid bB
        clear rz bB B4 HO4 HM4 HB4 hA hB hoff hsz
        obtain ⟨W5, hW5⟩ : ∃ W5, ((w4.setCell ⟨wr.heap.size, 0, none⟩ (.int .i64 (lo : Int))).setCell ⟨wr.heap.size, 1, none⟩ (.int .i64 P1)).setCell ⟨wr.heap.size, 2, none⟩ (.slice A4 LH c4) = W5 := ⟨_, rfl⟩
        rw [hW5] at HRG HO5 HM5' HB5 ⊢
        clear hW5 g0 g1 g2 g3 g4 g5
        obtain ⟨k1, k2, k3, k4⟩ := HP.out.step HB5.out HO5.out HM5'.out HAP.out HML.out
        rw [HP1.out] at k1 k2 k3 k4
        have hm9 : Mds (((W5.setCell ⟨w1.heap.size, 0, none⟩ (.int .i64 (lo : Int))).setCell ⟨w1.heap.size, 1, none⟩ (.int .i64 P1)).setCell ⟨w1.heap.size, 2, none⟩ (.slice A4 LH c4)) A5 M5 ma := by
          obtain ⟨_, _, e9, _, hm9, _⟩ := own_mds k2
          simp only [Value.slice.injEq] at e9
          obtain ⟨rfl, e10, rfl⟩ := e9
          rw [HM5.out] at hm9
          exact hm9
        have HK1 := Lib.hid k1
        have HK3 := Lib.hid k3
        have HK4 := Lib.hid k4
        have HM9 := Lib.hid hm9
        have HMB : Hid (md.length + M5 ≤ 4398046511000) := Lib.hid (by have := HM5.out; omega)
        have rf5 := HP.out.rf.below HB5.out HP.out.rf.lt
        have y0 := rf5.cell 0
        have y1 := rf5.cell 1
        have y2 := rf5.cell 2
        have y3 := rf5.free 0
        have y4 := rf5.free 1
        have y5 := rf5.free 2
        have v0 := HRG.out.cell 0
        have v1 := HRG.out.cell 1
        have v2 := HRG.out.cell 2
        clear k1 k2 k3 k4 hm9 rf5 q0 q1 q2 HC HPU
        go_wp2_with (at_builtin; refine wpList_appRowM rfl (.tmp 45) (.tmp 46) rfl (w1.heap.size + 1) v md ma A5 M5 c5 rfl rfl HK1.out HM9.out HK3.out HMB.out ?_; intro v7 w7 t1 t2 t3; have HN := Lib.hid (HK4.out v7 w7 t1 t2 t3); clear t1 t2 t3)
        go_roundw
        case rel => exact ⟨v7, .slice A4 LH c4, j + 1, md ++ ma, rfl, by go_num, by omega, HN⟩
        case measure => simp only [intOf]; omega
    · obtain rfl : j = n := by omega
      have rf := hp.out.rf
      have rr := hp.out.rr
      have y0 := rf.cell 0
      have y1 := rf.cell 1
      have y2 := rf.cell 2
      have z0 := rr.cell 0
      have z1 := rr.cell 1
      have z2 := rr.cell 2
      have z3 := rr.free 0
      have z4 := rr.free 1
      have z5 := rr.free 2
      obtain ⟨B2, c2, e2, _, _, _⟩ := own_mds hp.out.own
      obtain ⟨M, hM⟩ : ∃ M, md.length = M := ⟨_, rfl⟩
      rw [hM] at e2
      have HM := Lib.hid hM
      have HP := Lib.hid hp.out
      have HFS := Lib.hid hfs
      have HMC := Lib.hid hmc
      obtain ⟨P1, hP1⟩ : ∃ P1 : Int, ((lo + j : Nat) : Int) = P1 := ⟨_, rfl⟩
      rw [hP1] at y1
      have HP1 := Lib.hid hP1
      subst e2
      clear hp rf rr hM hm3 hP1 hfs hmc
      go_wp2
      refine bodyPost_ret (v := .tuple #[.agg #[.int .i64 (lo : Int), .int .i64 P1, .slice B m3 c3], .slice B2 M c2, .bool true]) (by simp [results, Tryd.f29, go_sem, z0, z1, z2]) rfl ?_
      rw [← HP1.out]
      have hp := HP.out
      have b0 : ∀ i : Nat, w.heap.size ≤ (⟨w.heap.size, i, none⟩ : Addr).block := fun _ => Nat.le_refl _
      have hne : ∀ i : Nat, (Value.slice B m3 c3).ownBlock ≠ some (⟨w.heap.size, i, none⟩ : Addr).block := fun i e => by have := own_base hp.fs _ e; have h2 : (⟨w.heap.size, i, none⟩ : Addr).block = w.heap.size := rfl; have := hp.wF; omega
      obtain ⟨_, _, e9, _, hs9⟩ := Strs.Own.shape (ownsRow_setCell_other (a := ⟨w.heap.size, 2, none⟩) (ownsRow_setCell_other (a := ⟨w.heap.size, 1, none⟩) (ownsRow_setCell_other (a := ⟨w.heap.size, 0, none⟩) hp.fs (hne 0) (.int .i64 (lo : Int))) (hne 1) (.int .i64 ((lo + j : Nat) : Int))) (hne 2) (.slice B m3 c3))
      simp only [Value.slice.injEq] at e9
      obtain ⟨rfl, e10, rfl⟩ := e9
      rw [← e10] at hs9
      exact ⟨_, _, _, _, _, _, rfl, hs9, HMC.out, by rw [← HM.out]; exact hp.len, ((hp.bel.setCell (b0 0) _).setCell (b0 1) _).setCell (b0 2) _⟩
/-- The leaves' hashes, by their places. -/
def leafF (k : Int) (T : Nat) (ss : List ByteArray) (p : Nat) : ByteArray := if p < T ∨ T + ss.length ≤ p then emptyH k else leafH k (ss.getD (p - T) ⟨#[]⟩)
theorem leafF_size (k : Int) (T : Nat) (ss : List ByteArray) (p : Nat) : (leafF k T ss p).size = wid k := by unfold leafF; split; exact emptyH_size k; exact leafH_size k _
theorem leafF_at (k : Int) (T : Nat) (ss : List ByteArray) (i : Nat) (h : i < ss.length) : (ss.map (leafH k)).getD i ⟨#[]⟩ = leafF k T ss (T + i) := by
  unfold leafF
  rw [if_neg (by omega), Nat.add_sub_cancel_left]
  simp [List.getD_eq_getElem?_getD, h]
theorem leafF_cut (k : Int) (T : Nat) (ss : List ByteArray) (l h i : Nat) (hh : h ≤ ss.length) (hi : l + i < h) : (((ss.map (leafH k)).take h).drop l).getD i ⟨#[]⟩ = leafF k T ss (T + l + i) := by
  rw [Nat.add_assoc, ← leafF_at k T ss (l + i) (by omega), List.getD_eq_getElem?_getD, List.getD_eq_getElem?_getD, List.getElem?_drop, List.getElem?_take_of_lt (by omega)]
def PushedT (k : Int) (f : Nat → ByteArray) (lo hi : Nat) (w : World) (e : Ending) (w' : World) : Prop :=
  ∃ B m c M B2 c2, e = .returned (.tuple #[fv (lo : Int) (hi : Int) B m c, .slice B2 M c2, .bool true]) ∧ Strs w' B m (hs k f lo hi) ∧ m ≤ c ∧ M + (greedy lo hi).length = hi - lo ∧ Below w.heap.size w w'
theorem pushedT_calls (k : Int) (f : Nat → ByteArray) (hf : ∀ p, (f p).size = wid k) (lo n hi : Nat) (hlo : lo + n = hi) (hh : hi ≤ 4611686018427387904) (A : Option Addr) (c : Nat) (ss : List ByteArray) (w : World) (hS : Strs w A n ss) (hss : ∀ i, i < n → ss.getD i ⟨#[]⟩ = f (lo + i)) (hn : n ≤ 1048576) (hT : Tab w) :
    Calls Tryd.prog 29 #[.int .i64 k, .int .i64 (lo : Int), .slice A n c] w (PushedT k f lo hi w) := by
  subst hlo
  refine (pushed_calls k f hf lo n hh A c ss w hS hss hn hT).mono ?_
  rintro e w' ⟨B, m, c, M, B2, c2, rfl, h1, h2, h3, h4⟩
  exact ⟨B, m, c, M, B2, c2, rfl, h1, h2, by omega, h4⟩
def MergedT (k : Int) (f : Nat → ByteArray) (lo mid hi : Nat) (w : World) (e : Ending) (w' : World) : Prop :=
  ∃ B m c M B2 c2, e = .returned (.tuple #[fv (lo : Int) (hi : Int) B m c, .slice B2 M c2, .int .i64 0]) ∧ Strs w' B m (hs k f lo hi) ∧ m ≤ c ∧ M + (greedy lo hi).length = (greedy lo mid).length + (greedy mid hi).length ∧ Below w.heap.size w w'
theorem mergedT_calls (k : Int) (f : Nat → ByteArray) (hf : ∀ p, (f p).size = wid k) (lo mid hi : Nat) (hl : lo ≤ mid) (hm : mid ≤ hi) (hh : hi ≤ 4611686018427387904) (A B : Option Addr) (n c m d : Nat) (w : World) (hS1 : Strs w A n (hs k f lo mid)) (hS2 : Strs w B m (hs k f mid hi)) (hT : Tab w) :
    Calls Tryd.prog 23 #[.int .i64 k, fv (lo : Int) (mid : Int) A n c, fv (mid : Int) (hi : Int) B m d] w (MergedT k f lo mid hi w) := by
  obtain ⟨md, h1, h2⟩ := merge_ans hf hl hm hh
  have l1 := hS1.len
  have l2 := hS2.len
  rw [hs_length] at l1 l2
  have g1 := greedy_len lo mid hl (by omega)
  have g2 := greedy_len mid hi hm hh
  have := mmerge_calls k (lo : Int) (mid : Int) (mid : Int) (hi : Int) A B n c m d _ _ w hS1 hS2 (by omega) (by omega) hT
  rw [h2 w] at this
  refine this.mono ?_
  rintro e w' ⟨vh, vm, rfl, oh, om, _, b⟩
  obtain ⟨B1, c1, rfl, hc1, hs1⟩ := oh.shape
  obtain ⟨B2, c2, rfl, _, hm2, _⟩ := own_mds om
  exact ⟨B1, _, c1, _, B2, c2, rfl, hs1, hc1, h1, b⟩
/-- A frontier in a box. -/
structure Fr (k : Int) (f : Nat → ByteArray) (lo hi g : Nat) (B : Option Addr) (m c : Nat) (W : World) : Prop where
  row : Row W g #[.int .i64 (lo : Int), .int .i64 (hi : Int), .slice B m c] 24
  fs : Strs W B m (hs k f lo hi)
  mc : m ≤ c
theorem Fr.call {k : Int} {f : Nat → ByteArray} {lo hi g m c : Nat} {B : Option Addr} {W W' : World} (h : Fr k f lo hi g B m c W) (b : Below W.heap.size W W') : Fr k f lo hi g B m c W' := ⟨h.row.below b h.row.lt, h.fs.below b, h.mc⟩
theorem Fr.new {k : Int} {f : Nat → ByteArray} {lo hi m c : Nat} {B : Option Addr} {w : World} (h : Strs w B m (hs k f lo hi)) (hmc : m ≤ c) : Fr k f lo hi w.heap.size B m c (w.alloc (.cells #[.int .i64 (lo : Int), .int .i64 (hi : Int), .slice B m c] 24)) :=
  ⟨Row.new _ _ _, h.below ((Below.refl _ w).alloc (Nat.le_refl _) _), hmc⟩
theorem Fr.grow {k : Int} {f : Nat → ByteArray} {lo hi m : Nat} {B : Option Addr} {w : World} (h : Strs w B m (hs k f lo hi)) (c : Nat) : Below w.heap.size w (w.alloc (.cells #[.int .i64 (lo : Int), .int .i64 (hi : Int), .slice B m c] 24)) := (Below.refl _ w).alloc (Nat.le_refl _) _
end Go.Proofs.YtahkpcbemnfllaaDoor.Comp
