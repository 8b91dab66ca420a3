/- begun, Push: their walks. -/
import Derived.Test.YtahkpcbemnfllaaDoorPush2
set_option linter.unusedVariables false
set_option linter.unusedSimpArgs false
namespace Go.Proofs.YtahkpcbemnfllaaDoor.Comp
open Go.RowKit Go.Proofs.YtahkpcbemnfllaaDoor.Base Go.Proofs.YtahkpcbemnfllaaDoor.Mem Go.Proofs.YtahkpcbemnfllaaDoor.Strs Go.Proofs.YtahkpcbemnfllaaDoor.ShaDig Go.Proofs.YtahkpcbemnfllaaDoor.TreeHash Go.Proofs.YtahkpcbemnfllaaDoor.Cov
open Go.Proofs.YtahkpcbemnfllaaDoor.Lst (OwnA Adr OwnA.shape Kp own_below Lst ac ac_append ac_length infoAddr own_lt own_base own_shape own_kp)

theorem zip_fst (L : List (Nat × Nat)) (ss : List ByteArray) (h : L.length = ss.length) : (L.zip ss).map (·.1) = L := List.map_fst_zip (by omega)
theorem zip_snd (L : List (Nat × Nat)) (ss : List ByteArray) (h : L.length = ss.length) : (L.zip ss).map (·.2) = ss := List.map_snd_zip (by omega)
set_option maxRecDepth 100000 in
set_option maxHeartbeats 2000000 in
theorem begun_calls (w0 : World) (F q : Nat) (k lo hi : Int) (A : Option Addr) (n c : Nat) (ss : List ByteArray) (w : World) (hb : Below w0.heap.size w0 w) (hq : w0.heap.size ≤ q) (rq : Row w q #[.slice none 0 0] 40) (hS : Strs w A n ss) (hn : (covL lo hi).length = n) :
    Calls Tryd.prog 37 #[.int .i64 k, fv lo hi A n c, clo F q] w (fun e w' => ∃ p hv av, e = .returned (.pointer (some ⟨p, 0, none⟩)) ∧ RunS w0 F p q lo (wid k) hi ((covL lo hi).zip ss) [] hv av (.slice none 0 0) w' ∧ Below w.heap.size w w') := by
  have hcl := covL_len lo hi
  have hl := hS.len
  have hb0 : Below w.heap.size w (w.alloc (.cells #[.int .i64 lo, .int .i64 hi, .slice A n c] 24)) := (Below.refl _ w).alloc (Nat.le_refl _) _
  have r0 := Row.new w #[.int .i64 lo, .int .i64 hi, .slice A n c] 24
  have HRC := Lib.hid (mcover_calls lo hi (w.alloc (.cells #[.int .i64 lo, .int .i64 hi, .slice A n c] 24)))
  have HB0 := Lib.hid hb0
  have HR0 := Lib.hid r0
  have HS := Lib.hid hS
  have HL := Lib.hid hl
  have HBW := Lib.hid hb
  have HRQ := Lib.hid rq
  have HQ := Lib.hid hq
  have HW := Lib.hid (fun W => width_calls k W)
  have c0 := r0.cell 0
  have c1 := r0.cell 1
  have hfst := Lib.hid (zip_fst (covL lo hi) ss (by omega))
  have hsnd := Lib.hid (zip_snd (covL lo hi) ss (by omega))
  clear hS hb0 r0 hl hb rq hq
  generalize covL lo hi = L at *
  generalize covE lo hi = z at *
  go_enter Tryd.func37, Tryd.ntmps37
  go_wp2_with fail
  refine HRC.out.mono ?_
  rintro e w1 ⟨v1, rfl, o1, b1⟩
  have HB1 := Lib.hid (HB0.out.trans (b1.mono HB0.out.size))
  have HB1' := Lib.hid b1
  have r1 := HR0.out.below b1 HR0.out.lt
  have HR1 := Lib.hid r1
  have HO := Lib.hid o1
  obtain ⟨B, d, rfl, _, _, _⟩ := OwnA.shape o1
  have x0 := r1.cell 0
  have x1 := r1.cell 1
  have x2 := r1.cell 2
  clear o1 b1 c0 c1 r1
  go_wp2_with fail
  go_region_held3 (fun W => W.cell? ⟨w.heap.size, 0, none⟩ = some (.int .i64 lo) ∧ W.cell? ⟨w.heap.size, 1, none⟩ = some (.int .i64 hi) ∧ W.cell? ⟨w.heap.size, 2, none⟩ = some (.slice A n c)) (go_keep)
    ((go_at_call 34; (with_reducible refine (HW.out _).mono ?_); rintro e _ ⟨rfl, rfl⟩))
  obtain ⟨W3, hW3⟩ : ∃ W3, (w1.alloc (.cells #[.int .i64 lo, .int .i64 hi, .slice A n c, .int .i64 (wid k : Int), .slice B n d, clo F q] 76)).drew = W3 := ⟨_, rfl⟩
  have b3 : Below w1.heap.size w1 W3 := hW3 ▸ ((Below.refl _ w1).alloc (Nat.le_refl _) _).drew
  have rp : Row W3 w1.heap.size #[.int .i64 lo, .int .i64 hi, .slice A n c, .int .i64 (wid k : Int), .slice B n d, clo F q] 76 := hW3 ▸ Row.new _ _ _
  rw [hW3]
  clear hW3
  have r4 := HR1.out.below b3 HR1.out.lt
  have y2 := r4.cell 2
  have HRP := Lib.hid rp
  have HB3 := Lib.hid b3
  have hS3 := HS.out.below (chain HB1.out b3)
  clear x0 x1 x2 r4 rp b3
  subst hn
  go_wp2_with (at_builtin; refine wpList_appRow (w0 := W3) W3.heap.size rfl (.const (.slice none 0 0)) (.tmp 27) rfl _ [] ss A L.length c rfl rfl (Strs.Own.nil _ _) hS3 (Below.refl _ _) (Nat.le_refl _) (by simp; omega) ?_; intro v4 w4 ho4 hb4 _ _; rw [List.nil_append] at ho4; have HO4 := Lib.hid ho4; have HB4 := Lib.hid hb4; obtain ⟨A4, d4, e4, _, _⟩ := ho4.shape; subst e4; have rp4 := HRP.out.below hb4 HRP.out.lt; have s2 := rp4.cell 2; have f2 := rp4.free 2; have HRP4 := Lib.hid rp4; clear ho4 hb4 rp4)
  have hpw := HRP.out.lt
  have hB1s := HB1.out.size
  have hqlt := HRQ.out.lt
  have hqs := HQ.out
  have hw0 := HBW.out.size
  have hb4s := HB4.out.size
  have hav := own_lt HO.out
  have hab := own_base HO.out
  have hhv := own_base HO4.out
  rw [World.size_alloc] at hab
  have hoffh : ∀ r, r < W3.heap.size → Off r (.slice A4 ss.length d4) := fun r hr e => by have := hhv r e; omega
  have ebel : Below w.heap.size w w4 := chain (chain HB1.out HB3.out) HB4.out
  go_ret
  refine ⟨w1.heap.size, .slice A4 ss.length d4, .slice B L.length d, rfl, ?_, ebel.setCell (by show w.heap.size ≤ w1.heap.size; omega) _⟩
  have oh : Strs.Own w4 w0.heap.size (.slice A4 ss.length d4) ss := Lst.own_down HO4.out (by omega)
  have oa : OwnA w4 w0.heap.size (.slice B L.length d) L := Lst.own_down (own_below (own_below HO.out HB3.out) HB4.out) (by simp; omega)
  have rq4 : Row w4 q #[.slice none 0 0] 40 := HRQ.out.below ebel hqlt
  have nh : Off w1.heap.size (.slice A4 ss.length d4) := hoffh _ hpw
  have na : Off w1.heap.size (.slice B L.length d) := fun e => by have := hav _ e; omega
  exact {
    bel := (chain HBW.out ebel).setCell (by show w0.heap.size ≤ w1.heap.size; omega) _
    bp := by omega
    bq := hqs
    pq := by omega
    row := HRP4.out.set 2 _
    box := rq4.far _ (by show q ≠ w1.heap.size; omega) _
    oh := by rw [hsnd.out]; exact ownsRow_setCell_other (a := ⟨w1.heap.size, 2, none⟩) oh nh _
    oa := by rw [hfst.out]; exact ownsRow_setCell_other (a := ⟨w1.heap.size, 2, none⟩) oa na _
    om := World.ownsRow_nil _ _ _ _
    hp := nh
    hq := hoffh q (by omega)
    ap := na
    aq := fun e => by have := hab q e; omega
    mp := fun e => by simp [Value.ownBlock] at e
    mq := fun e => by simp [Value.ownBlock] at e
    ha := fun v e1 e2 => by have := hhv v e1; have := hav v e2; omega
    hm := fun v e1 e2 => by simp [Value.ownBlock] at e2
    am := fun v e1 e2 => by simp [Value.ownBlock] at e2 }
/-! ### Push -/
def pushE (k lo hi : Int) (ss : List ByteArray) (h : ByteArray) : Int := if chk k lo hi ss ≠ 0 then chk k lo hi ss else if h.size ≠ wid k then 72 else if hi = 4611686018427387904 then 10 else 0
def pushN (k lo hi : Int) (ss : List ByteArray) (h : ByteArray) : List Md × List Md := if pushE k lo hi ss h ≠ 0 then ([], []) else beh k ((covL lo hi).zip ss) ((0, hi.toNat), h)
def pushLo (k lo hi : Int) (ss : List ByteArray) (h : ByteArray) : Int := if pushE k lo hi ss h ≠ 0 then 0 else lo
def pushHi (k lo hi : Int) (ss : List ByteArray) (h : ByteArray) : Int := if pushE k lo hi ss h ≠ 0 then 0 else hi + 1
/-- A frontier, the nodes that became whole, and the error: in new memory. -/
def Ans (lo hi z : Int) (hs : List ByteArray) (md : List Md) (w : World) (e : Ending) (w' : World) : Prop :=
  ∃ vh vm, e = .returned (.tuple #[.agg #[.int .i64 lo, .int .i64 hi, vh], vm, .int .i64 z]) ∧ Strs.Own w' w.heap.size vh hs ∧ OwnM w' w.heap.size vm md ∧ Apart vh vm ∧ Below w.heap.size w w'
theorem ans_none (z : Int) {w w' : World} (b : Below w.heap.size w w') : Ans 0 0 z [] [] w (.returned (.tuple #[fv 0 0 none 0 0, .slice none 0 0, .int .i64 z])) w' :=
  ⟨_, _, rfl, Strs.Own.nil _ _, World.ownsRow_nil _ _ _ _, fun k e => by simp [Value.ownBlock] at e, b⟩
theorem chk_ok {k lo hi : Int} {ss : List ByteArray} (h : chk k lo hi ss = 0) : covE lo hi = 0 ∧ (covL lo hi).length = ss.length ∧ (∀ s ∈ ss, s.size = wid k) ∧ 0 ≤ lo ∧ lo ≤ hi ∧ hi ≤ 4611686018427387904 := by
  have hf := chk_fit h
  unfold chk at h
  split at h
  · omega
  · rename_i h1
    split at h
    · omega
    · rename_i h2
      have h1' : covE lo hi = 0 := by omega
      refine ⟨h1', by omega, hf, ?_⟩
      unfold covE at h1'
      split at h1'
      · omega
      · rename_i h3; omega
theorem tiles_ok {p hi : Nat} {l : List (Nat × Nat)} (h : Tiles p hi l) (hh : hi ≤ 4611686018427387904) : ∀ y ∈ l, y.1 ≤ 62 ∧ (y.2 + 1) * 2 ^ y.1 ≤ 4611686018427387904 := by
  induction h with
  | done => intro y hy; simp at hy
  | @step p hi k j l e hk ht ih =>
    intro y hy
    have := ht.le
    rcases List.mem_cons.1 hy with rfl | hy
    · refine ⟨hk, ?_⟩
      show (j + 1) * 2 ^ k ≤ _
      rw [Nat.add_mul, Nat.one_mul, ← e]
      omega
    · exact ih hh y hy
theorem zip_ok {k lo hi : Int} {ss : List ByteArray} (h : chk k lo hi ss = 0) : ∀ y ∈ (covL lo hi).zip ss, okM y := by
  obtain ⟨h1, h2, h3, h4, h5, h6⟩ := chk_ok h
  intro y hy
  obtain ⟨⟨a, b⟩, s⟩ := y
  obtain ⟨m1, m2⟩ := List.of_mem_zip hy
  obtain ⟨A, B, rfl, rfl, h7, h8, h9, _⟩ := cov_yes (lo := lo) (hi := hi) (by omega)
  rw [h9] at m1
  have := tiles_ok (greedy_tiles h7 h8) h8 _ m1
  have hw := wid_le k
  exact ⟨this.1, this.2, by have := h3 _ m2; show s.size ≤ 32; omega⟩
theorem pushE_of {lo hi : Int} {k : Int} {ss : List ByteArray} {h : ByteArray} (hz : pushE k lo hi ss h ≠ 0) : pushN k lo hi ss h = ([], []) ∧ pushLo k lo hi ss h = 0 ∧ pushHi k lo hi ss h = 0 := by
  unfold pushN pushLo pushHi
  rw [if_pos hz, if_pos hz, if_pos hz]; exact ⟨rfl, rfl, rfl⟩
def PushA (k lo hi : Int) (ss : List ByteArray) (h : ByteArray) : World → Ending → World → Prop := Ans (pushLo k lo hi ss h) (pushHi k lo hi ss h) (pushE k lo hi ss h) ((pushN k lo hi ss h).1.map (·.2)) (pushN k lo hi ss h).2
theorem pushA_bad {k lo hi z : Int} {ss : List ByteArray} {h : ByteArray} {w w' : World} (he : pushE k lo hi ss h = z) (hz : z ≠ 0) (b : Below w.heap.size w w') : PushA k lo hi ss h w (.returned (.tuple #[fv 0 0 none 0 0, .slice none 0 0, .int .i64 z])) w' := by
  obtain ⟨h1, h2, h3⟩ := pushE_of (k := k) (lo := lo) (hi := hi) (ss := ss) (h := h) (by rw [he]; exact hz)
  unfold PushA
  rw [h1, h2, h3, he]
  exact ans_none z b
set_option maxRecDepth 100000 in
set_option maxHeartbeats 4000000 in
theorem mpush_calls (k lo hi : Int) (A : Option Addr) (n c : Nat) (ss : List ByteArray) (h : ByteArray) (w : World) (hS : Strs w A n ss) (hnc : n ≤ c) (hn : n ≤ 8796093022208) (hT : Tab w) :
    Calls Tryd.prog 19 #[.int .i64 k, fv lo hi A n c, .string h] w (PushA k lo hi ss h w) := by
  have r1 := (Row.new w #[.int .i64 lo, .int .i64 hi, .slice A n c] 24).alloc (.cells #[.int .i64 0, .int .i64 0, .slice none 0 0] 24)
  have r2 := Row.new (w.alloc (.cells #[.int .i64 lo, .int .i64 hi, .slice A n c] 24)) #[.int .i64 0, .int .i64 0, .slice none 0 0] 24
  rw [World.size_alloc] at r2
  have hb0 : Below w.heap.size w ((w.alloc (.cells #[.int .i64 lo, .int .i64 hi, .slice A n c] 24)).alloc (.cells #[.int .i64 0, .int .i64 0, .slice none 0 0] 24)) := ((Below.refl _ w).alloc (Nat.le_refl _) _).alloc (by simp) _
  have HK := Lib.hid (check_calls k lo hi A n c ss _ (hS.below hb0) hn)
  have HR1 := Lib.hid r1
  have HR2 := Lib.hid r2
  have HB0 := Lib.hid hb0
  have HS := Lib.hid hS
  have HT := Lib.hid hT
  have HL := Lib.hid hS.len
  have c10 := r1.cell 0
  have c11 := r1.cell 1
  have c12 := r1.cell 2
  have HW := Lib.hid (fun W => width_calls k W)
  clear r1 r2 hb0 hS hT
  by_cases hz : chk k lo hi ss = 0
  · have HCK := Lib.hid hz
    rw [hz] at HK
    clear hz
    by_cases hsz : h.size = wid k
    · have hs1 : ((h.size : Int) == (wid k : Int)) = true := by rw [beq_iff_eq]; omega
      have hs2 : ((h.size : Int) != (wid k : Int)) = false := by rw [bne, hs1]; rfl
      have HSZ := Lib.hid hsz
      clear hsz
      by_cases hmx : hi = 4611686018427387904
      · have HF : Hid (pushE k lo hi ss h = 10) := Lib.hid (by unfold pushE; rw [HCK.out, if_neg (by simp), if_neg (by simp [HSZ.out]), if_pos hmx])
        subst hmx
        go_enter Tryd.func19, Tryd.ntmps19
        go_wp2_with fail
        refine HK.out.mono ?_
        rintro e w1 ⟨rfl, b1⟩
        have HB1 := Lib.hid (chain HB0.out b1)
        have HQ1 := Lib.hid (HR1.out.below b1 HR1.out.lt)
        have q2 := HR2.out.below b1 HR2.out.lt
        have HQ2 := Lib.hid q2
        have y0 := HQ1.out.cell 0
        have y1 := HQ1.out.cell 1
        have y2 := HQ1.out.cell 2
        have x0 := q2.cell 0
        have x1 := q2.cell 1
        have x2 := q2.cell 2
        have f0 := q2.free 0
        have f1 := q2.free 1
        have f2 := q2.free 2
        clear b1 q2 c10 c11 c12
        go_wp2_with (go_at_call 34; ((with_reducible refine (HW.out _).mono ?_); rintro e w' ⟨rfl, rfl⟩))
        refine bodyPost_ret (v := .tuple #[fv 0 0 none 0 0, .slice none 0 0, .int .i64 10]) (by simp [results, Tryd.f19, go_sem, x0, x1, x2]) rfl (pushA_bad HF.out (by decide) ?_)
        exact ((HB1.out.setCell (by show w.heap.size ≤ w.heap.size + 1; omega) _).setCell (by show w.heap.size ≤ w.heap.size + 1; omega) _).setCell (by show w.heap.size ≤ w.heap.size + 1; omega) _
      · obtain ⟨e1, e2, e3, e4, e5, e6⟩ := chk_ok HCK.out
        obtain ⟨H, rfl⟩ : ∃ H : Nat, hi = H := ⟨hi.toNat, by omega⟩
        have hH : H < 4611686018427387904 := by omega
        have hm1 : ((H : Int) == 4611686018427387904) = false := by rw [beq_eq_false_iff_ne]; exact hmx
        have HF : Hid (pushE k lo (H : Int) ss h = 0) := Lib.hid (by unfold pushE; rw [HCK.out, if_neg (by simp), if_neg (by simp [HSZ.out]), if_neg hmx])
        have HCL := Lib.hid (covL_len lo (H : Int))
        have hcn : Hid ((covL lo (H : Int)).length = n) := Lib.hid (by rw [e2, HL.out])
        have HZO := Lib.hid (zip_ok HCK.out)
        have HWL := Lib.hid (wid_le k)
        clear e1 e2 e3 e4 e5 e6
        go_enter Tryd.func19, Tryd.ntmps19
        go_wp2_with fail
        refine HK.out.mono ?_
        rintro e w1 ⟨rfl, b1⟩
        have HB1 := Lib.hid (chain HB0.out b1)
        have HQ1 := Lib.hid (HR1.out.below b1 HR1.out.lt)
        have q2 := HR2.out.below b1 HR2.out.lt
        have HQ2 := Lib.hid q2
        have y0 := HQ1.out.cell 0
        have y1 := HQ1.out.cell 1
        have y2 := HQ1.out.cell 2
        clear b1 q2 c10 c11 c12
        have bq : Below w1.heap.size w1 (w1.alloc (.cells #[.slice none 0 0] 40)) := (Below.refl _ w1).alloc (Nat.le_refl _) _
        have rq := Row.new w1 #[.slice none 0 0] 40
        have HBG := Lib.hid (begun_calls w1 38 w1.heap.size k lo (H : Int) A n c ss _ bq (Nat.le_refl _) rq (HS.out.below (chain HB1.out bq)) hcn.out)
        have z0 := (HQ1.out.below bq HQ1.out.lt).cell 0
        have z1 := (HQ1.out.below bq HQ1.out.lt).cell 1
        have z2 := (HQ1.out.below bq HQ1.out.lt).cell 2
        have HBQ := Lib.hid bq
        clear bq rq
        go_wp2_with (go_at_call 34; ((with_reducible refine (HW.out _).mono ?_); rintro e w' ⟨rfl, rfl⟩))
        refine HBG.out.mono ?_
        rintro e w2 ⟨p, hv, av, rfl, R1, b2⟩
        have HR1' := Lib.hid R1
        have HB2 := Lib.hid (chain HBQ.out b2)
        have z0 := (HQ1.out.below HB2.out HQ1.out.lt).cell 0
        have z1 := (HQ1.out.below HB2.out HQ1.out.lt).cell 1
        have z2 := (HQ1.out.below HB2.out HQ1.out.lt).cell 2
        have HBH : Hid (Calls Tryd.prog 39 #[.pointer (some ⟨p, 0, none⟩), .agg #[.int .i64 0, .int .i64 (H : Int)], .string h, .int .i64 ((H : Int) + 1)] w2
          (fun e w' => e = .returned (.tuple #[]) ∧ ∃ hv' av' mv', RunS w1 38 p w1.heap.size lo (wid k : Int) ((H : Int) + 1) (beh k ((covL lo (H : Int)).zip ss) ((0, H), h)).1 (beh k ((covL lo (H : Int)).zip ss) ((0, H), h)).2 hv' av' mv' w')) := Lib.hid (by
          have := behind_calls w1 38 p w1.heap.size lo (wid k : Int) (H : Int) ((H : Int) + 1) ((covL lo (H : Int)).zip ss) [] ((0, H), h) hv av _ w2 pushTell (fun _ _ => rfl) HR1'.out (HT.out.below HB1.out) HZO.out ⟨Nat.zero_le _, by show (H + 1) * 2 ^ 0 ≤ _; omega, by show h.size ≤ 32; have := HWL.out; have := HSZ.out; omega⟩ (by have := HCL.out; rw [List.length_zip]; simp; omega)
          rw [beh_wid, List.nil_append] at this
          exact this)
        clear b2 R1 y0 y1 y2
        go_wp2_with fail
        refine HBH.out.mono ?_
        rintro e w3 ⟨rfl, hv3, av3, mv3, R3⟩
        obtain ⟨A9, c9, ev, _, _⟩ := R3.oh.shape
        obtain ⟨N9, hN9⟩ : ∃ N9, ((beh k ((covL lo (H : Int)).zip ss) ((0, H), h)).1.map (·.2)).length = N9 := ⟨_, rfl⟩
        rw [hN9] at ev
        clear hN9
        subst ev
        have HR3 := Lib.hid R3
        have x0 := R3.row.cell 0
        have x1 := R3.row.cell 1
        have x2 := R3.row.cell 2
        have x3 := R3.box.cell 0
        have q3 := HQ2.out.below R3.bel HQ2.out.lt
        have v0 := q3.cell 0
        have v1 := q3.cell 1
        have v2 := q3.cell 2
        have f0 := q3.free 0
        have f1 := q3.free 1
        have f2 := q3.free 2
        have HQ2S : Hid (w.heap.size + 1 < w1.heap.size ∧ w.heap.size ≤ w1.heap.size) := Lib.hid ⟨HQ2.out.lt, HB1.out.size⟩
        have HPN : Hid (pushLo k lo (H : Int) ss h = lo ∧ pushHi k lo (H : Int) ss h = (H : Int) + 1 ∧ pushN k lo (H : Int) ss h = beh k ((covL lo (H : Int)).zip ss) ((0, H), h)) := Lib.hid (by
          unfold pushLo pushHi pushN
          rw [HF.out]
          exact ⟨if_neg (by simp), if_neg (by simp), by rw [if_neg (by simp)]; rfl⟩)
        have hn1 : ¬ (w.heap.size + 1 = w1.heap.size) := by have := HQ2S.out.1; omega
        have hn2 : ¬ (w1.heap.size = w.heap.size + 1) := by have := HQ2S.out.1; omega
        have hn3 : ¬ (w.heap.size + 1 = p) := by have := HQ2S.out.1; have := R3.bp; omega
        have hn4 : ¬ (p = w.heap.size + 1) := by have := HQ2S.out.1; have := R3.bp; omega
        clear R3 q3 z0 z1 z2
        go_wp2_with fail
        go_region
        all_goals go_wp2
        refine bodyPost_ret (v := .tuple #[.agg #[.int .i64 lo, .int .i64 ((H : Int) + 1), .slice A9 N9 c9], mv3, .int .i64 0]) (by simp [results, Tryd.f19, go_sem, v0, v1, v2]) rfl ?_
        unfold PushA
        rw [HPN.out.1, HPN.out.2.1, HPN.out.2.2, HF.out]
        have r3 := HR3.out
        have hne : ∀ (v : Value), (∀ j, v.ownBlock = some j → w1.heap.size ≤ j) → ∀ i : Nat, v.ownBlock ≠ some (⟨w.heap.size + 1, i, none⟩ : Addr).block := fun v hv i e => absurd (show w1.heap.size ≤ w.heap.size + 1 from hv _ e) (by have := HQ2S.out.1; omega)
        have b0 : ∀ i : Nat, w.heap.size ≤ (⟨w.heap.size + 1, i, none⟩ : Addr).block := fun _ => Nat.le_succ _
        refine ⟨_, _, rfl, ?_, ?_, r3.hm, ?_⟩
        · exact Lst.own_down (ownsRow_setCell_other (ownsRow_setCell_other (ownsRow_setCell_other r3.oh (hne _ (own_base r3.oh) 0) _) (hne _ (own_base r3.oh) 1) _) (hne _ (own_base r3.oh) 2) _) HQ2S.out.2
        · exact Lst.own_down (ownsRow_setCell_other (ownsRow_setCell_other (ownsRow_setCell_other r3.om (hne _ (own_base r3.om) 0) _) (hne _ (own_base r3.om) 1) _) (hne _ (own_base r3.om) 2) _) HQ2S.out.2
        · exact ((((chain HB1.out r3.bel).setCell (b0 0) _).setCell (b0 1) _).setCell (b0 2) _).drew
    · have hs1 : ((h.size : Int) == (wid k : Int)) = false := by rw [beq_eq_false_iff_ne]; omega
      have hs2 : ((h.size : Int) != (wid k : Int)) = true := by rw [bne, hs1]; rfl
      have HF : Hid (pushE k lo hi ss h = 72) := Lib.hid (by unfold pushE; rw [HCK.out, if_neg (by simp), if_pos hsz])
      clear hsz
      go_enter Tryd.func19, Tryd.ntmps19
      go_wp2_with fail
      refine HK.out.mono ?_
      rintro e w1 ⟨rfl, b1⟩
      have HB1 := Lib.hid (chain HB0.out b1)
      have HQ1 := Lib.hid (HR1.out.below b1 HR1.out.lt)
      have q2 := HR2.out.below b1 HR2.out.lt
      have HQ2 := Lib.hid q2
      have y0 := HQ1.out.cell 0
      have y1 := HQ1.out.cell 1
      have y2 := HQ1.out.cell 2
      have x0 := q2.cell 0
      have x1 := q2.cell 1
      have x2 := q2.cell 2
      have f0 := q2.free 0
      have f1 := q2.free 1
      have f2 := q2.free 2
      clear b1 q2 c10 c11 c12
      go_wp2_with (go_at_call 34; ((with_reducible refine (HW.out _).mono ?_); rintro e w' ⟨rfl, rfl⟩))
      refine bodyPost_ret (v := .tuple #[fv 0 0 none 0 0, .slice none 0 0, .int .i64 72]) (by simp [results, Tryd.f19, go_sem, x0, x1, x2]) rfl (pushA_bad HF.out (by decide) ?_)
      exact ((HB1.out.setCell (by show w.heap.size ≤ w.heap.size + 1; omega) _).setCell (by show w.heap.size ≤ w.heap.size + 1; omega) _).setCell (by show w.heap.size ≤ w.heap.size + 1; omega) _
  · have HF : Hid (pushE k lo hi ss h = chk k lo hi ss) := Lib.hid (by unfold pushE; rw [if_pos hz])
    have HZ := Lib.hid hz
    generalize chk k lo hi ss = z at *
    have hlo1 : (z == 0) = false := by rw [beq_eq_false_iff_ne]; exact hz
    have hlo2 : (z != 0) = true := by rw [bne, hlo1]; rfl
    clear hz
    go_enter Tryd.func19, Tryd.ntmps19
    go_wp2_with fail
    refine HK.out.mono ?_
    rintro e w1 ⟨rfl, b1⟩
    have HB1 := Lib.hid (chain HB0.out b1)
    have q2 := HR2.out.below b1 HR2.out.lt
    have x0 := q2.cell 0
    have x1 := q2.cell 1
    have x2 := q2.cell 2
    have f0 := q2.free 0
    have f1 := q2.free 1
    have f2 := q2.free 2
    clear b1 q2 c10 c11 c12
    go_wp2
    refine bodyPost_ret (v := .tuple #[fv 0 0 none 0 0, .slice none 0 0, .int .i64 z]) (by simp [results, Tryd.f19, go_sem, x0, x1, x2]) rfl (pushA_bad HF.out HZ.out ?_)
    exact ((HB1.out.setCell (by show w.heap.size ≤ w.heap.size + 1; omega) _).setCell (by show w.heap.size ≤ w.heap.size + 1; omega) _).setCell (by show w.heap.size ≤ w.heap.size + 1; omega) _
end Go.Proofs.YtahkpcbemnfllaaDoor.Comp
