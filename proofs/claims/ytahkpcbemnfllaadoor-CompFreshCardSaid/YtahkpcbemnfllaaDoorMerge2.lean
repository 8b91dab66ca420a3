/- comp.Merge: its walk. -/
import Derived.Test.YtahkpcbemnfllaaDoorMerge1
import Derived.Test.YtahkpcbemnfllaaDoorBehWK
import Derived.LoopN
set_option linter.unusedVariables false
set_option linter.unusedSimpArgs false
namespace Go.Proofs.YtahkpcbemnfllaaDoor.Comp
open Go.RowKit Go.Proofs.YtahkpcbemnfllaaDoor.Base Go.Proofs.YtahkpcbemnfllaaDoor.Mem Go.Proofs.YtahkpcbemnfllaaDoor.Strs Go.Proofs.YtahkpcbemnfllaaDoor.ShaDig Go.Proofs.YtahkpcbemnfllaaDoor.TreeHash Go.Proofs.YtahkpcbemnfllaaDoor.Cov Go.Proofs.YtahkpcbemnfllaaDoor.Addrs Go.Proofs.YtahkpcbemnfllaaDoor.CompK
open Go.Proofs.YtahkpcbemnfllaaDoor.Lst (OwnA Adr OwnA.shape Kp own_below Lst ac ac_append ac_length infoAddr own_lt own_base own_shape own_kp)

/-- The boxes that stay: the two parameters, the answer. -/
structure B3 (w : World) (ca cb cr : Array Value) (W : World) : Prop where
  bel : Below w.heap.size w W
  ra : Row W w.heap.size ca 24
  rb : Row W (w.heap.size + 1) cb 24
  rr : Row W (w.heap.size + 1 + 1) cr 24
theorem B3.call {w W W' : World} {ca cb cr : Array Value} (h : B3 w ca cb cr W) (b : Below W.heap.size W W') : B3 w ca cb cr W' := ⟨chain h.bel b, h.ra.below b h.ra.lt, h.rb.below b h.rb.lt, h.rr.below b h.rr.lt⟩
theorem B3.new (w : World) (ca cb cr : Array Value) : B3 w ca cb cr (((w.alloc (.cells ca 24)).alloc (.cells cb 24)).alloc (.cells cr 24)) := by
  have r1 := ((Row.new w ca 24).alloc (.cells cb 24)).alloc (.cells cr 24)
  have r2 := (Row.new (w.alloc (.cells ca 24)) cb 24).alloc (.cells cr 24)
  have r3 := Row.new ((w.alloc (.cells ca 24)).alloc (.cells cb 24)) cr 24
  rw [World.size_alloc] at r2 r3
  rw [World.size_alloc] at r3
  exact ⟨(((Below.refl _ w).alloc (Nat.le_refl _) _).alloc (by simp) _).alloc (by simp; omega) _, r1, r2, r3⟩
theorem B3.end {w W : World} {ca cb cr : Array Value} (h : B3 w ca cb cr W) (x y z : Value) : Below w.heap.size w (((W.setCell ⟨w.heap.size + 1 + 1, 0, none⟩ x).setCell ⟨w.heap.size + 1 + 1, 1, none⟩ y).setCell ⟨w.heap.size + 1 + 1, 2, none⟩ z) :=
  ((h.bel.setCell (by show w.heap.size ≤ w.heap.size + 1 + 1; omega) _).setCell (by show w.heap.size ≤ w.heap.size + 1 + 1; omega) _).setCell (by show w.heap.size ≤ w.heap.size + 1 + 1; omega) _
/-- What keeps a list of addresses: its one block. -/
theorem own_keep {w : World} {base : Nat} {B : Option Addr} {d : Nat} {l : List (Nat × Nat)} (h : OwnA w base (.slice B l.length d) l) : l = [] ∨ ∃ r o, base ≤ r ∧ w.heap[r]? = some o ∧ ∀ W : World, W.heap[r]? = some o → Adr W B l.length l := by
  by_cases hl : l = []
  · exact .inl hl
  · right
    have hp : 0 < l.length := List.length_pos_iff.2 hl
    obtain ⟨g, rfl, _, _⟩ := own_form h hp
    rcases h.2 with ⟨_, h0⟩ | ⟨g', cap, cur, e, hb, hh, hrest⟩
    · omega
    · simp only [Value.slice.injEq, Option.some.injEq, Addr.mk.injEq] at e
      obtain ⟨⟨rfl, _⟩, _, rfl⟩ := e
      refine ⟨g, _, hb, hh, fun W hW => ?_⟩
      obtain ⟨_, _, e2, _, ha, _⟩ := OwnA.shape (w := W) (base := base) (v := .slice (some ⟨g, 0, none⟩) l.length d) (l := l) ⟨h.1, .inr ⟨g, d, cur, rfl, hb, hW, hrest⟩⟩
      cases e2
      exact ha
theorem tiles_step {p hi : Nat} {x : Nat × Nat} {l : List (Nat × Nat)} (h : Tiles p hi (x :: l)) : p = x.2 * 2 ^ x.1 ∧ Tiles ((x.2 + 1) * 2 ^ x.1) hi l := by
  cases h with
  | @step _ _ k j _ e hk ht =>
    refine ⟨e, ?_⟩
    show Tiles ((j + 1) * 2 ^ k) hi l
    rw [Nat.add_mul, Nat.one_mul, ← e]
    exact ht
theorem tiles_nil {p hi : Nat} (h : Tiles p hi []) : p = hi := by cases h; rfl
set_option maxRecDepth 100000 in
set_option maxHeartbeats 4000000 in
theorem mmerge_calls (k alo ahi blo bhi : Int) (A B : Option Addr) (n c m d : Nat) (aa bb : List ByteArray) (w : World) (hS1 : Strs w A n aa) (hS2 : Strs w B m bb) (hn : n ≤ 8796093022208) (hm : m ≤ 8796093022208) (hT : Tab w) :
    Calls Tryd.prog 23 #[.int .i64 k, fv alo ahi A n c, fv blo bhi B m d] w (MergeA k alo ahi aa blo bhi bb w) := by
  have h0 := B3.new w #[.int .i64 alo, .int .i64 ahi, .slice A n c] #[.int .i64 blo, .int .i64 bhi, .slice B m d] #[.int .i64 0, .int .i64 0, .slice none 0 0]
  have HS1 := Lib.hid hS1
  have HS2 := Lib.hid hS2
  have HT := Lib.hid hT
  have HCA := Lib.hid (fun W (hW : Below w.heap.size w W) => check_calls k alo ahi A n c aa W (hS1.below hW) hn)
  have HCB := Lib.hid (fun W (hW : Below w.heap.size w W) => check_calls k blo bhi B m d bb W (hS2.below hW) hm)
  have a0 := h0.ra.cell 0
  have a1 := h0.ra.cell 1
  have a2 := h0.ra.cell 2
  have b0 := h0.rb.cell 0
  have b1 := h0.rb.cell 1
  have b2 := h0.rb.cell 2
  have hl1 := Lib.hid hS1.len
  have hl2 := Lib.hid hS2.len
  clear hS1 hS2 hT
  have hsz : (((w.alloc (.cells #[.int .i64 alo, .int .i64 ahi, .slice A n c] 24)).alloc (.cells #[.int .i64 blo, .int .i64 bhi, .slice B m d] 24)).alloc (.cells #[.int .i64 0, .int .i64 0, .slice none 0 0] 24)).heap.size = w.heap.size + 3 := by simp
  go_enter Tryd.func23, Tryd.ntmps23
  go_wp2
  obtain ⟨W1, hW1⟩ : ∃ W1, ((((w.alloc (.cells #[.int .i64 alo, .int .i64 ahi, .slice A n c] 24)).alloc (.cells #[.int .i64 blo, .int .i64 bhi, .slice B m d] 24)).alloc (.cells #[.int .i64 0, .int .i64 0, .slice none 0 0] 24)).alloc (.cells #[.int .i64 alo, .int .i64 ahi, .slice A n c, .int .i64 blo, .int .i64 bhi, .slice B m d] 24)) = W1 := ⟨_, rfl⟩
  have hB1 : B3 w #[.int .i64 alo, .int .i64 ahi, .slice A n c] #[.int .i64 blo, .int .i64 bhi, .slice B m d] #[.int .i64 0, .int .i64 0, .slice none 0 0] W1 := hW1 ▸ h0.call ((Below.refl _ _).alloc (Nat.le_refl _) _)
  have rx : Row W1 (w.heap.size + 3) #[.int .i64 alo, .int .i64 ahi, .slice A n c, .int .i64 blo, .int .i64 bhi, .slice B m d] 24 := by
    have := Row.new (((w.alloc (.cells #[.int .i64 alo, .int .i64 ahi, .slice A n c] 24)).alloc (.cells #[.int .i64 blo, .int .i64 bhi, .slice B m d] 24)).alloc (.cells #[.int .i64 0, .int .i64 0, .slice none 0 0] 24)) #[.int .i64 alo, .int .i64 ahi, .slice A n c, .int .i64 blo, .int .i64 bhi, .slice B m d] 24
    rw [hsz, hW1] at this
    exact this
  rw [hW1]
  clear hW1 h0 a0 a1 a2 b0 b1 b2 hsz
  have HB1 := Lib.hid hB1
  have HRX := Lib.hid rx
  have x0 := rx.cell 0
  have x1 := rx.cell 1
  have x2 := rx.cell 2
  have hfb : Below W1.heap.size W1 (W1.alloc (.cells #[.int .i64 alo, .int .i64 ahi, .slice A n c] 24)) := (Below.refl _ _).alloc (Nat.le_refl _) _
  have HB2 := Lib.hid (hB1.call hfb)
  have HRX2 := Lib.hid (rx.below hfb rx.lt)
  clear hB1 rx hfb
  refine wp_loop_rounds 3 ?_
  rw [rounds_succ]
  go_wp2_with fail
  refine (HCA.out _ HB2.out.bel).mono ?_
  rintro e w1 ⟨rfl, b1⟩
  have HBX := Lib.hid (HB2.out.call b1)
  have HRX3 := Lib.hid (HRX2.out.below b1 HRX2.out.lt)
  clear b1 x0 x1 x2 HB1 HB2 HRX HRX2
  by_cases hz : chk k alo ahi aa = 0
  · rw [hz]
    have HZA := Lib.hid hz
    have x3 := HRX3.out.cell 3
    have x4 := HRX3.out.cell 4
    have x5 := HRX3.out.cell 5
    have hfb : Below w1.heap.size w1 (w1.alloc (.cells #[.int .i64 blo, .int .i64 bhi, .slice B m d] 24)) := (Below.refl _ _).alloc (Nat.le_refl _) _
    have HBX2 := Lib.hid (HBX.out.call hfb)
    clear hz hfb HRX3 HBX
    go_wp2_with fail
    rw [rounds_succ]
    go_wp2_with fail
    refine (HCB.out _ HBX2.out.bel).mono ?_
    rintro e w2 ⟨rfl, b2⟩
    have HBX := Lib.hid (HBX2.out.call b2)
    clear b2 HBX2 x3 x4 x5
    by_cases hz : chk k blo bhi bb = 0
    · rw [hz]
      have HZB := Lib.hid hz
      clear hz
      have p1 := HBX.out.ra.cell 1
      have p2 := HBX.out.rb.cell 0
      by_cases hab : ahi = blo
      · subst hab
        obtain ⟨e1, e2, e3, e4, e5, e6⟩ := chk_ok HZA.out
        obtain ⟨g1, g2, g3, g4, g5, g6⟩ := chk_ok HZB.out
        have hcn : (covL alo ahi).length = n := by rw [e2, hl1.out]
        have bq : Below w2.heap.size w2 (w2.alloc (.cells #[.slice none 0 0] 40)) := (Below.refl _ w2).alloc (Nat.le_refl _) _
        have rq := Row.new w2 #[.slice none 0 0] 40
        have HBQ := Lib.hid (HBX.out.call bq)
        have HBG := Lib.hid (begun_calls w2 45 w2.heap.size k alo ahi A n c aa _ bq (Nat.le_refl _) rq (HS1.out.below HBQ.out.bel) hcn)
        have z0 := HBQ.out.ra.cell 0
        have z1 := HBQ.out.ra.cell 1
        have z2 := HBQ.out.ra.cell 2
        have HLT := Lib.hid HBX.out.rr.lt
        clear bq rq e1 e2 e3 e4 e5 e6 g1 g2 g3 g4 g5 g6 hcn
        go_wp2_with fail
        rw [rounds_succ]
        go_wp2_with fail
        refine HBG.out.mono ?_
        rintro e w3 ⟨p, hv, av, rfl, R1, b3⟩
        have HB3 := Lib.hid (HBQ.out.call b3)
        have HR1 := Lib.hid R1
        have HCV := Lib.hid (mcover_calls ahi bhi w3)
        have y0 := HB3.out.rb.cell 0
        have y1 := HB3.out.rb.cell 1
        clear R1 b3 z0 z1 z2 p1 p2
        go_wp2_with fail
        refine HCV.out.mono ?_
        rintro e w4 ⟨v4, rfl, o4, b4⟩
        obtain ⟨BL, dl, e4, hdl, ha4, hb4⟩ := OwnA.shape o4
        subst e4
        have HB4 := Lib.hid (HB3.out.call b4)
        have HR4 := Lib.hid (HR1.out.below b4)
        clear y0 y1
        have HKX : Hid (∃ r o, KX r o p w2.heap.size hv av (.slice none 0 0) w4 ∧ ∀ W : World, W.heap[r]? = some o → Adr W BL (covL ahi bhi).length (covL ahi bhi)) := Lib.hid (by
          rcases own_keep o4 with hl | ⟨r, o, hr1, hr2, hr3⟩
          · have hr := HB4.out.ra
            have hlt := HLT.out
            have hb := HR4.out.bp
            refine ⟨w.heap.size, _, ⟨hr, by omega, by omega, fun e => ?_, fun e => ?_, fun e => by simp [Value.ownBlock] at e⟩, fun W _ => ⟨rfl, fun h => absurd h (by rw [hl]; simp)⟩⟩
            · have := own_base HR4.out.oh _ e; omega
            · have := own_base HR4.out.oa _ e; omega
          · have h1 := HR1.out.row.lt
            have h2 := HR1.out.box.lt
            refine ⟨r, o, ⟨hr2, by omega, by omega, fun e => ?_, fun e => ?_, fun e => by simp [Value.ownBlock] at e⟩, hr3⟩
            · have := own_lt HR1.out.oh _ e; omega
            · have := own_lt HR1.out.oa _ e; omega)
        clear o4 ha4 hb4
        obtain ⟨g1, g2, g3, g4, g5, g6⟩ := chk_ok HZB.out
        obtain ⟨a9, b9, ea, eb, g7, g8, g9, _⟩ := cov_yes (lo := ahi) (hi := bhi) (by omega)
        have htl : Tiles a9 b9 (covL ahi bhi) := g9 ▸ greedy_tiles g7 g8
        have hbz := Lib.hid (zip_ok HZB.out)
        have haz := Lib.hid (zip_ok HZA.out)
        have hlb : Hid (bb.length = (covL ahi bhi).length) := Lib.hid g2.symm
        have HC1 := Lib.hid (covL_len alo ahi)
        have HC2 := Lib.hid (covL_len ahi bhi)
        obtain ⟨r, o, hkx, hadr⟩ := HKX.out
        have HADR := Lib.hid hadr
        have HST : Hid (RunS w2 45 p w2.heap.size alo (wid k : Int) (a9 : Int) ((covL alo ahi).zip aa) [] hv av (.slice none 0 0) w4 ∧ KX r o p w2.heap.size hv av (.slice none 0 0) w4 ∧ Tiles a9 b9 (covL ahi bhi)) := Lib.hid ⟨ea ▸ HR4.out, hkx, htl⟩
        have HEB := Lib.hid eb
        clear g1 g2 g3 g4 g5 g6 g7 g8 g9 htl hkx hadr HKX ea eb
        have HMN : Hid (MergeA k alo ahi aa ahi bhi bb w = Ans alo (b9 : Int) 0 ((behs k ((covL alo ahi).zip aa) ((covL ahi bhi).zip bb)).1.map (·.2)) (behs k ((covL alo ahi).zip aa) ((covL ahi bhi).zip bb)).2 w) := Lib.hid (by
          have he : mergeE k alo ahi aa ahi bhi bb = 0 := by unfold mergeE; rw [HZA.out, HZB.out, if_neg (by simp), if_neg (by simp), if_neg (by simp)]
          unfold MergeA mergeLo mergeHi mergeN
          rw [he, if_neg (by simp), if_neg (by simp), if_neg (by simp), HEB.out])
        generalize covL ahi bhi = L at *
        have HZL : Hid (((covL alo ahi).zip aa).length ≤ 122) := Lib.hid (by rw [List.length_zip]; have := HC1.out; omega)
        generalize (covL alo ahi).zip aa = ZA at *
        generalize covE ahi bhi = cE at *
        go_wp2
        go_loopw [57] (fun s57 wr => ∃ (j pos : Nat) (hv av mv : Value), s57 = .int .i64 (j : Int) ∧ j ≤ L.length ∧ Hid (RunS w2 45 p w2.heap.size alo (wid k : Int) (pos : Int) (behs k ZA ((L.zip bb).take j)).1 (behs k ZA ((L.zip bb).take j)).2 hv av mv wr ∧ KX r o p w2.heap.size hv av mv wr ∧ Tiles pos b9 (L.drop j))) (fun s57 _ => L.length - (intOf s57).toNat)
        case atStart => exact ⟨0, a9, hv, av, _, rfl, Nat.zero_le _, by rw [List.take_zero, List.drop_zero]; exact HST⟩
        case round =>
          clear HST
          obtain ⟨j, pos, hv, av, mv, rfl, hj, hr⟩ := hrel
          have HBR := Lib.hid (HBX.out.call hr.out.1.bel)
          by_cases hlt : j < L.length
          · obtain ⟨R, K, T⟩ := hr.out
            obtain ⟨bd, X, rfl, _, hX, hXb, x0, x1⟩ := (HADR.out wr K.here).at2 j hlt
            have hjm : j < m := by rw [← hl2.out, hlb.out]; exact hlt
            obtain ⟨sd, rfl, hsb, hcell⟩ := (HS2.out.below HBR.out.bel).at_ j hjm
            have hdr : L.drop j = L.getD j (0, 0) :: L.drop (j + 1) := by
              rw [List.drop_eq_getElem_cons hlt]; congr 1; simp [List.getD_eq_getElem?_getD, hlt]
            rw [hdr] at T
            obtain ⟨T1, T2⟩ := tiles_step T
            have hzl : (L.zip bb).length = L.length := by rw [List.length_zip, hlb.out]; omega
            have hstep := behG_step k (ZA, []) (L.zip bb) j (by omega)
            have hgz : (L.zip bb).getD j md0 = (L.getD j (0, 0), bb.getD j ⟨#[]⟩) := by
              have h1 : j < bb.length := by rw [hlb.out]; exact hlt
              simp [List.getD_eq_getElem?_getD, hlt, h1, hzl, List.getElem?_zip_eq_some]
            rw [hgz] at hstep
            have hyz : (L.getD j (0, 0), bb.getD j ⟨#[]⟩) ∈ L.zip bb := by
              have h0 : j < (L.zip bb).length := by omega
              rw [← hgz, List.getD_eq_getElem?_getD, List.getElem?_eq_getElem h0]
              exact List.getElem_mem h0
            have hoky := hbz.out _ hyz
            have hlen := behG_len k ((L.zip bb).take j) (ZA, [])
            have hzal : ZA.length ≤ 122 := HZL.out
            have hokst := behG_ok k ((L.zip bb).take j) (ZA, []) haz.out (fun y hy => hbz.out y (List.mem_of_mem_take hy))
            have htk : ((L.zip bb).take j).length ≤ 122 := by rw [List.length_take]; have := HC2.out; omega
            simp only [List.length_nil] at hlen
            generalize L.getD j (0, 0) = y1 at *
            generalize bb.getD j ⟨#[]⟩ = y2 at *
            obtain ⟨HI, hHI⟩ : ∃ HI : Nat, (y1.2 + 1) * 2 ^ y1.1 = HI := ⟨_, rfl⟩
            obtain ⟨LO, hLO⟩ : ∃ LO : Nat, y1.2 * 2 ^ y1.1 = LO := ⟨_, rfl⟩
            have hsp := fun W => mSpan_yes y1.1 y1.2 W hoky.1 hoky.2.1
            rw [hHI, hLO] at hsp
            have HSP := Lib.hid hsp
            rw [hHI] at T2
            clear hsp hHI hLO
            have HBH : Hid (∀ W, Below wr.heap.size wr W → Calls Tryd.prog 39 #[.pointer (some ⟨p, 0, none⟩), .agg #[.int .i64 (y1.1 : Int), .int .i64 (y1.2 : Int)], .string y2, .int .i64 (HI : Int)] W
              (fun e w' => e = .returned (.tuple #[]) ∧ ∃ hv' av' mv', RunS w2 45 p w2.heap.size alo (wid k : Int) (HI : Int) (behs k ZA ((L.zip bb).take (j + 1))).1 (behs k ZA ((L.zip bb).take (j + 1))).2 hv' av' mv' w' ∧ KX r o p w2.heap.size hv' av' mv' w')) := Lib.hid (fun W hW => by
              have := behind_callsK r o w2 45 p w2.heap.size alo (wid k : Int) (pos : Int) (HI : Int) _ _ (y1, y2) hv av mv W mergeTell (fun _ _ => rfl) (R.below hW) (K.below hW) (HT.out.below HBX.out.bel) hokst hoky (by unfold behs; omega)
              rw [beh_wid] at this
              show Calls _ _ _ _ _
              unfold behs at *
              rw [hstep]
              exact this)
            have HRL := Lib.hid (Row.new wr #[.int .i64 (y1.1 : Int), .int .i64 (y1.2 : Int)] 52)
            have bx := (Below.refl _ wr).alloc (Nat.le_refl _) (.cells #[.int .i64 (y1.1 : Int), .int .i64 (y1.2 : Int)] 52)
            have HBXX := Lib.hid bx
            have HSB := Lib.hid ((HS2.out.below HBR.out.bel))
            have HT2 := Lib.hid T2
            have v0 := HRL.out.cell 0
            have v1 := HRL.out.cell 1
            have hjj : (j : Int) < (L.length : Int) := by omega
            have hjm' : (j : Int) < (m : Int) := by omega
            have hj0 : (0 : Int) ≤ (j : Int) := by omega
            clear R K T T1 T2 hdr hzl hstep hgz hyz hoky hlen hzal hokst htk hXb bx
            go_wp2_with fail
            refine (HSP.out _).mono ?_
            rintro e w5 ⟨rfl, b5⟩
            have rl := HRL.out.below b5 HRL.out.lt
            have q0 := rl.cell 0
            have q1 := rl.cell 1
            have hb5 := HBXX.out.trans (b5.mono HBXX.out.size)
            have q2 := (HBR.out.call hb5).rb.cell 2
            have HB5 := Lib.hid hb5
            have hcell5 : w5.cell? (sd.add j) = some (.string y2) := (hb5.cell (by rw [Lst.add_block]; exact hsb)).trans hcell
            clear rl v0 v1 x0 x1 b5 hcell hsb
            go_wp2_with fail
            go_region_law ((go_simp; go_at_call 39; (with_reducible refine (HBH.out _ (by exact HB5.out.drew)).mono ?_); rintro e w6 ⟨rfl, hv6, av6, mv6, R6, K6⟩))
            all_goals go_wp2
            all_goals
              go_roundw
              case rel => exact ⟨j + 1, HI, hv6, av6, mv6, by go_num, by omega, Lib.hid ⟨R6, K6, HT2.out⟩⟩
              case measure => simp only [intOf]; omega
          · obtain rfl : j = L.length := by omega
            obtain ⟨R3, _, T⟩ := hr.out
            rw [List.drop_length] at T
            obtain rfl := tiles_nil T
            rw [List.take_of_length_le (by rw [List.length_zip]; omega)] at R3
            obtain ⟨A9, c9, ev, _, _⟩ := R3.oh.shape
            obtain ⟨N9, hN9⟩ : ∃ N9, ((behs k ZA (L.zip bb)).1.map (·.2)).length = N9 := ⟨_, rfl⟩
            rw [hN9] at ev
            clear hN9
            subst ev
            have HR3 := Lib.hid R3
            have x0 := R3.row.cell 0
            have x1 := R3.row.cell 1
            have x2 := R3.row.cell 2
            have x3 := R3.box.cell 0
            have q3 := HBR.out.rr
            have v0 := q3.cell 0
            have v1 := q3.cell 1
            have v2 := q3.cell 2
            have f0 := q3.free 0
            have f1 := q3.free 1
            have f2 := q3.free 2
            have hn1 : ¬ (w.heap.size + 1 + 1 = w2.heap.size) := by have := HLT.out; omega
            have hn2 : ¬ (w2.heap.size = w.heap.size + 1 + 1) := by have := HLT.out; omega
            have hn3 : ¬ (w.heap.size + 1 + 1 = p) := by have := HLT.out; have := R3.bp; omega
            have hn4 : ¬ (p = w.heap.size + 1 + 1) := by have := HLT.out; have := R3.bp; omega
            clear R3 q3 T hr
            go_wp2_with fail
            go_region
            all_goals go_wp2
            refine bodyPost_ret (v := .tuple #[.agg #[.int .i64 alo, .int .i64 (pos : Int), .slice A9 N9 c9], mv, .int .i64 0]) (by simp [results, Tryd.f23, go_sem, v0, v1, v2]) rfl ?_
            have hw2 := HLT.out
            have hne : ∀ (v : Value), (∀ j, v.ownBlock = some j → w2.heap.size ≤ j) → ∀ i : Nat, v.ownBlock ≠ some (⟨w.heap.size + 1 + 1, i, none⟩ : Addr).block := fun v hv i e => absurd (show w2.heap.size ≤ w.heap.size + 1 + 1 from hv _ e) (by omega)
            have b0 : ∀ i : Nat, w.heap.size ≤ (⟨w.heap.size + 1 + 1, i, none⟩ : Addr).block := fun _ => by show w.heap.size ≤ w.heap.size + 1 + 1; omega
            have r3 := HR3.out
            have hbs := HBX.out.bel.size
            rw [HMN.out]
            refine ⟨_, _, rfl, ?_, ?_, r3.hm, ?_⟩
            · exact Lst.own_down (ownsRow_setCell_other (ownsRow_setCell_other (ownsRow_setCell_other r3.oh (hne _ (own_base r3.oh) 0) _) (hne _ (own_base r3.oh) 1) _) (hne _ (own_base r3.oh) 2) _) hbs
            · exact Lst.own_down (ownsRow_setCell_other (ownsRow_setCell_other (ownsRow_setCell_other r3.om (hne _ (own_base r3.om) 0) _) (hne _ (own_base r3.om) 1) _) (hne _ (own_base r3.om) 2) _) hbs
            · exact ((((chain HBX.out.bel r3.bel).setCell (b0 0) _).setCell (b0 1) _).setCell (b0 2) _).drew
      · have HF : Hid (mergeE k alo ahi aa blo bhi bb = 70) := Lib.hid (by unfold mergeE; rw [HZA.out, HZB.out, if_neg (by simp), if_neg (by simp), if_pos hab])
        have HZ : Hid ((70 : Int) ≠ 0) := Lib.hid (by decide)
        have h1 : (ahi == blo) = false := by rw [beq_eq_false_iff_ne]; exact hab
        have h2 : (ahi != blo) = true := by rw [bne, h1]; rfl
        clear hab
        have r0 := HBX.out.rr.cell 0
        have r1 := HBX.out.rr.cell 1
        have r2 := HBX.out.rr.cell 2
        have f0 := HBX.out.rr.free 0
        have f1 := HBX.out.rr.free 1
        have f2 := HBX.out.rr.free 2
        go_wp2_with fail
        rw [rounds_succ]
        go_wp2
        refine bodyPost_ret (v := .tuple #[fv 0 0 none 0 0, .slice none 0 0, .int .i64 70]) (by simp [results, Tryd.f23, go_sem, r0, r1, r2]) rfl (mergeA_bad HF.out HZ.out (HBX.out.end _ _ _))
    · have HF : Hid (mergeE k alo ahi aa blo bhi bb = chk k blo bhi bb) := Lib.hid (by unfold mergeE; rw [HZA.out, if_neg (by simp), if_pos hz])
      have HZ := Lib.hid hz
      generalize chk k blo bhi bb = z at *
      have hlo1 : (z == 0) = false := by rw [beq_eq_false_iff_ne]; exact hz
      have hlo2 : (z != 0) = true := by rw [bne, hlo1]; rfl
      clear hz
      have r0 := HBX.out.rr.cell 0
      have r1 := HBX.out.rr.cell 1
      have r2 := HBX.out.rr.cell 2
      have f0 := HBX.out.rr.free 0
      have f1 := HBX.out.rr.free 1
      have f2 := HBX.out.rr.free 2
      go_wp2
      refine bodyPost_ret (v := .tuple #[fv 0 0 none 0 0, .slice none 0 0, .int .i64 z]) (by simp [results, Tryd.f23, go_sem, r0, r1, r2]) rfl (mergeA_bad HF.out HZ.out (HBX.out.end _ _ _))
  · have HF : Hid (mergeE k alo ahi aa blo bhi bb = chk k alo ahi aa) := Lib.hid (by unfold mergeE; rw [if_pos hz])
    have HZ := Lib.hid hz
    generalize chk k alo ahi aa = z at *
    have hlo1 : (z == 0) = false := by rw [beq_eq_false_iff_ne]; exact hz
    have hlo2 : (z != 0) = true := by rw [bne, hlo1]; rfl
    clear hz HRX3
    have r0 := HBX.out.rr.cell 0
    have r1 := HBX.out.rr.cell 1
    have r2 := HBX.out.rr.cell 2
    have f0 := HBX.out.rr.free 0
    have f1 := HBX.out.rr.free 1
    have f2 := HBX.out.rr.free 2
    go_wp2
    refine bodyPost_ret (v := .tuple #[fv 0 0 none 0 0, .slice none 0 0, .int .i64 z]) (by simp [results, Tryd.f23, go_sem, r0, r1, r2]) rfl (mergeA_bad HF.out HZ.out (HBX.out.end _ _ _))
end Go.Proofs.YtahkpcbemnfllaaDoor.Comp
