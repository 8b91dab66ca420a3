/- asked: its walk. -/
import Derived.Test.YtahkpcbemnfllaaDoorGenA
set_option linter.unusedVariables false
set_option linter.unusedSimpArgs false
namespace Go.Proofs.YtahkpcbemnfllaaDoor.Gen
open Go.RowKit Go.Proofs.YtahkpcbemnfllaaDoor.Base Go.Proofs.YtahkpcbemnfllaaDoor.Mem Go.Proofs.YtahkpcbemnfllaaDoor.Comp Go.Proofs.YtahkpcbemnfllaaDoor.ShaDig
open Go.Proofs.YtahkpcbemnfllaaDoor.Strs (Strs)
open Go.Proofs.YtahkpcbemnfllaaDoor.Lst (Kp own_below own_lt own_base own_kp own_down)

set_option maxRecDepth 100000 in
set_option maxHeartbeats 8000000 in
theorem asked_calls (k alo ahi : Int) (A : Option Addr) (n c : Nat) (aa : List ByteArray) (blo bhi : Int) (B : Option Addr) (m d : Nat) (bb : List ByteArray) (hash : ByteArray) (w : World) (hS1 : Strs w A n aa) (hS2 : Strs w B m bb) (hnc : n ≤ c) (hmd : m ≤ d) (hn : n ≤ 8796093022208) (hm : m ≤ 8796093022208) (hT : Tab w) (hR : RTab w) :
    Calls Tryd.prog 26 #[.int .i64 k, fv alo ahi A n c, fv blo bhi B m d, .string hash] w (fun e w' => e = .returned (.bool true) ∧ Below w.heap.size w w') := by
  have hb0 : Below w.heap.size w ((w.alloc (.cells #[.int .i64 alo, .int .i64 ahi, .slice A n c] 24)).alloc (.cells #[.int .i64 blo, .int .i64 bhi, .slice B m d] 24)) := ((Below.refl _ w).alloc (Nat.le_refl _) _).alloc (by simp) _
  have r1 := (Row.new w #[.int .i64 alo, .int .i64 ahi, .slice A n c] 24).alloc (.cells #[.int .i64 blo, .int .i64 bhi, .slice B m d] 24)
  have r2 := Row.new (w.alloc (.cells #[.int .i64 alo, .int .i64 ahi, .slice A n c] 24)) #[.int .i64 blo, .int .i64 bhi, .slice B m d] 24
  rw [World.size_alloc] at r2
  have HA0 := Lib.hid (AK.start (hv := fun _ => .slice none 0 0) (mv := fun _ => .slice none 0 0) (nh := fun _ => 0) (nm := fun _ => 0) hb0 r1 r2)
  have HPA := Lib.hid (fun W (hW : Below w.heap.size w W) => mpush_calls k alo ahi A n c aa hash W (hS1.below hW) hnc hn (hT.below hW))
  have HPB := Lib.hid (fun W (hW : Below w.heap.size w W) => mpush_calls k blo bhi B m d bb hash W (hS2.below hW) hmd hm (hT.below hW))
  have HQA := Lib.hid (fun W (hW : Below w.heap.size w W) => rpush_calls k alo ahi A n c aa hash W (hS1.below hW) hnc hn (hR.below hW))
  have HQB := Lib.hid (fun W (hW : Below w.heap.size w W) => rpush_calls k blo bhi B m d bb hash W (hS2.below hW) hmd hm (hR.below hW))
  have HLA := Lib.hid (pushN_len k alo ahi aa hash)
  have HLB := Lib.hid (pushN_len k blo bhi bb hash)
  have HMA := Lib.hid (fun W (hW : Below w.heap.size w W) => mmerge_calls k alo ahi blo bhi A B n c m d aa bb W (hS1.below hW) (hS2.below hW) hn hm (hT.below hW))
  have HMB := Lib.hid (fun W (hW : Below w.heap.size w W) => mmerge_calls k blo bhi alo ahi B A m d n c bb aa W (hS2.below hW) (hS1.below hW) hm hn (hT.below hW))
  have HNA := Lib.hid (fun W (hW : Below w.heap.size w W) => rmerge_calls k alo ahi blo bhi A B n c m d aa bb W (hS1.below hW) (hS2.below hW) hn hm (hR.below hW))
  have HNB := Lib.hid (fun W (hW : Below w.heap.size w W) => rmerge_calls k blo bhi alo ahi B A m d n c bb aa W (hS2.below hW) (hS1.below hW) hm hn (hR.below hW))
  have HKA := Lib.hid (mergeN_len k alo ahi aa blo bhi bb)
  have HKB := Lib.hid (mergeN_len k blo bhi bb alo ahi aa)
  unfold PushA at HPA HPB HQA HQB
  unfold MergeA at HMA HMB HNA HNB
  generalize pushLo k alo ahi aa hash = PALo at *
  generalize pushHi k alo ahi aa hash = PAHi at *
  generalize pushE k alo ahi aa hash = PAE at *
  generalize pushN k alo ahi aa hash = PAN at *
  generalize pushLo k blo bhi bb hash = PBLo at *
  generalize pushHi k blo bhi bb hash = PBHi at *
  generalize pushE k blo bhi bb hash = PBE at *
  generalize pushN k blo bhi bb hash = PBN at *
  generalize mergeLo k alo ahi aa blo bhi bb = MALo at *
  generalize mergeHi k alo ahi aa blo bhi bb = MAHi at *
  generalize mergeE k alo ahi aa blo bhi bb = MAE at *
  generalize mergeN k alo ahi aa blo bhi bb = MAN at *
  generalize mergeLo k blo bhi bb alo ahi aa = MBLo at *
  generalize mergeHi k blo bhi bb alo ahi aa = MBHi at *
  generalize mergeE k blo bhi bb alo ahi aa = MBE at *
  generalize mergeN k blo bhi bb alo ahi aa = MBN at *
  clear hS1 hS2 hT hR hb0 r1 r2 hnc hmd
  go_enter Tryd.func26, Tryd.ntmps26
  go_wp2
  go_loopw [9, 10, 11] (fun s9 s10 s11 wr => ∃ (t : Nat) (ho mo : Value), ho = s9 ∧ mo = s10 ∧ s11 = .int .i64 (t : Int) ∧ t ≤ 5 ∧ Hid (∃ hv mv nh nm F, AK w #[.int .i64 alo, .int .i64 ahi, .slice A n c] #[.int .i64 blo, .int .i64 bhi, .slice B m d] hv mv nh nm ho mo t t t F wr)) (fun _ _ s11 _ => 5 - (intOf s11).toNat)
  case atStart => exact ⟨0, _, _, rfl, rfl, rfl, by omega, Lib.hid ⟨_, _, _, _, HA0.out⟩⟩
  case round =>
    clear HA0
    obtain ⟨t, ho, mo, rfl, rfl, rfl, ht, hr⟩ := hrel
    obtain ⟨hv, mv, nh, nm, F, hr⟩ := hr.out
    have a0 := hr.ra.cell 0
    have a1 := hr.ra.cell 1
    have a2 := hr.ra.cell 2
    have b0 := hr.rb.cell 0
    have b1 := hr.rb.cell 1
    have b2 := hr.rb.cell 2
    have c0 := (hr.rb.alloc (.cells #[.int .i64 alo, .int .i64 ahi, .slice A n c] 24)).cell 0
    have c1 := (hr.rb.alloc (.cells #[.int .i64 alo, .int .i64 ahi, .slice A n c] 24)).cell 1
    have c2 := (hr.rb.alloc (.cells #[.int .i64 alo, .int .i64 ahi, .slice A n c] 24)).cell 2
    have HR := Lib.hid hr
    by_cases hlt : t < 5
    · have t1 : (t : Int) < 5 := by omega
      clear hr b0 b1 b2
      by_cases h2 : t = 2
      · have t2 : ((t : Int) == 2) = true := by simp; omega
        have bx := (Below.refl _ wr).alloc (Nat.le_refl _) (.cells #[.int .i64 blo, .int .i64 bhi, .slice B m d] 24)
        have hq := HR.out.call bx
        have HK := Lib.hid (HPB.out _ hq.g.bel)
        have HQ := Lib.hid hq
        have HX1 := Lib.hid (Row.new wr #[.int .i64 blo, .int .i64 bhi, .slice B m d] 24)
        clear hq bx HR
        go_wp2_with fail
        clear a0 a1 a2 c0 c1 c2
        refine HK.out.mono ?_
        rintro e w1 hA
        obtain ⟨B1, N1, d1, B2, N2, d2, rfl, s1, m1, l1, l2, bb1, ⟨cs1, o1⟩, ⟨ds1, o2⟩, ha⟩ := ans_own hA
        obtain ⟨F2, hq2⟩ := HQ.out.add (Nat.le_refl _) (Nat.le_refl _) bb1 o1 o2 ha (by rw [l1, List.length_map]; have := HLB.out.1; omega) (by rw [l2]; have := HLB.out.2; omega)
        have e1 : put hv (t) (.slice B1 N1 d1) (t) = .slice B1 N1 d1 := if_pos rfl
        have e2 : put mv (t) (.slice B2 N2 d2) (t) = .slice B2 N2 d2 := if_pos rfl
        obtain ⟨hv2, hh1⟩ : ∃ f, put hv (t) (.slice B1 N1 d1) = f := ⟨_, rfl⟩
        obtain ⟨mv2, hh2⟩ : ∃ f, put mv (t) (.slice B2 N2 d2) = f := ⟨_, rfl⟩
        obtain ⟨nh2, hh3⟩ : ∃ f, putN nh (t) N1 = f := ⟨_, rfl⟩
        obtain ⟨nm2, hh4⟩ : ∃ f, putN nm (t) N2 = f := ⟨_, rfl⟩
        rw [hh1] at e1
        rw [hh2] at e2
        rw [hh1, hh2, hh3, hh4] at hq2
        have E1 := Lib.hid e1
        have E2 := Lib.hid e2
        have HLL := Lib.hid (And.intro l1 l2)
        have bA := (Below.refl _ w1).alloc (Nat.le_refl _) (.cells #[.int .i64 PBLo, .int .i64 PBHi, .slice B1 N1 d1] 24)
        have hq3 := hq2.call bA
        have HQ3 := Lib.hid hq3
        have HR13 := Lib.hid (Row.new w1 #[.int .i64 PBLo, .int .i64 PBHi, .slice B1 N1 d1] 24)
        have HS1 := Lib.hid (s1.below bA)
        have HM1 := Lib.hid (m1.below bA)
        have HK2 := Lib.hid (HQB.out _ hq3.g.bel)
        have rx1 := (HX1.out.below bb1 HX1.out.lt).below bA (HX1.out.below bb1 HX1.out.lt).lt
        have x0 := rx1.cell 0
        have x1 := rx1.cell 1
        have x2 := rx1.cell 2
        clear rx1 HX1
        clear hA s1 m1 l1 l2 o1 o2 ha hq2 hq3 e1 e2 hh1 hh2 hh3 hh4 HK HQ bA bb1
        go_wp2_with fail
        refine HK2.out.mono ?_
        rintro e w2 hA
        obtain ⟨Q1, M1, v1, Q2, M2, v2, rfl, qs, qm, qe1, qe2, b9⟩ := Ans.shape hA
        have bB := (Below.refl _ w2).alloc (Nat.le_refl _) (.cells #[.int .i64 PBLo, .int .i64 PBHi, .slice Q1 M1 v1] 24)
        have hu1 : M1 = N1 := by rw [qe1, HLL.out.1]
        have hu2 : M2 = N2 := by rw [qe2, HLL.out.2]
        subst hu1 hu2
        have hq4 := (HQ3.out.call b9).call bB
        have HQ4 := Lib.hid hq4
        have rw3 := (HR13.out.below b9 HR13.out.lt).below bB (HR13.out.below b9 HR13.out.lt).lt
        have HR3 := Lib.hid rw3
        have HR16 := Lib.hid (Row.new w2 #[.int .i64 PBLo, .int .i64 PBHi, .slice Q1 M1 v1] 24)
        have HSA := Lib.hid (same_calls PBLo PBHi B1 Q1 M1 d1 v1 (PBN.1.map (·.2)) _ ((HS1.out.below b9).below bB) (qs.below bB) (by rw [HLL.out.1, List.length_map]; have := HLB.out.1; omega))
        have HMA1 := Lib.hid (And.intro ((HM1.out.below b9).below bB) (qm.below bB))
        have i0 := rw3.cell 0
        have i1 := rw3.cell 1
        have i2 := rw3.cell 2
        have j0 := HR16.out.cell 0
        have j1 := HR16.out.cell 1
        have j2 := HR16.out.cell 2
        clear hA b9 bB qs qm qe1 qe2 rw3 hq4 HQ3 HR13 HS1 HM1 HK2 x0 x1 x2
        go_wp2_with fail
        refine HSA.out.mono ?_
        rintro e w3 ⟨rfl, bY⟩
        have hq5 := HQ4.out.call bY
        have HSMD := Lib.hid (sameMade_calls B2 Q2 M2 d2 v2 PBN.2 w3 (HMA1.out.1.below bY) (HMA1.out.2.below bY) (by rw [HLL.out.2]; have := HLB.out.2; omega))
        have HR3' := Lib.hid (HR3.out.below bY HR3.out.lt)
        have HQ5 := Lib.hid hq5
        clear bY i0 i1 i2 j0 j1 j2 hq5 HQ4 HR16 HR3 HSA HMA1
        go_wp2_with fail
        refine HSMD.out.mono ?_
        rintro e _ ⟨rfl, kd, rfl⟩
        have hq6 := HQ5.out.call (drewN_below w3 kd)
        have i2 := (HR3'.out.below (drewN_below w3 kd) HR3'.out.lt).cell 2
        obtain ⟨w4, hw4⟩ : ∃ w4, w3.drewN kd = w4 := ⟨_, rfl⟩
        rw [hw4] at hq6 i2 ⊢
        have HST := Lib.hid (fun ty => (hq6.call ((Below.refl _ w4).alloc (Nat.le_refl _) (.cells #[.slice B1 M1 d1] 22))).step0 (by omega) w4.heap.size (by rw [E1.out]; exact heap_alloc_new _ _) (by rw [E1.out]; rfl) ty)
        clear hq6 HQ5 HR3' HSMD hw4
        go_wp2_with (first
          | (at_builtin; refine wpList_appG rfl (.tmp 68) (.tmp 71) 88 rfl _ _ rfl rfl _ (HST.out _) ?_; intro ho2 w5 h1; obtain ⟨F4, h1⟩ := h1; have HSM := Lib.hid (fun ty => (h1.call ((Below.refl _ w5).alloc (Nat.le_refl _) (.cells #[.slice B2 M2 d2] 40))).step1 (by omega) w5.heap.size (by rw [E2.out]; exact heap_alloc_new _ _) (by rw [E2.out]; rfl) ty); clear h1 HST)
          | (at_builtin; refine wpList_appG rfl (.tmp 73) (.tmp 75) 89 rfl _ _ rfl rfl _ (HSM.out _) ?_; intro mo2 w6 h1; have HNX := Lib.hid h1; clear h1 HSM))
        refine ⟨⟨t + 1, ho2, mo2, rfl, rfl, by go_num, by omega, Lib.hid ⟨_, _, _, _, HNX.out⟩⟩, ?_⟩
        simp only [intOf]
        omega
      · have t2 : ((t : Int) == 2) = false := by simp; omega
        by_cases h3 : t = 3
        · have t3 : ((t : Int) == 3) = true := by simp; omega
          have bx := (Below.refl _ wr).alloc (Nat.le_refl _) (.cells #[.int .i64 blo, .int .i64 bhi, .slice B m d] 24)
          have hq := HR.out.call bx
          have HK := Lib.hid (HPB.out _ hq.g.bel)
          have HQ := Lib.hid hq
          have HX1 := Lib.hid (Row.new wr #[.int .i64 blo, .int .i64 bhi, .slice B m d] 24)
          clear hq bx HR
          go_wp2_with fail
          clear a0 a1 a2 c0 c1 c2
          refine HK.out.mono ?_
          rintro e w1 hA
          obtain ⟨B1, N1, d1, B2, N2, d2, rfl, s1, m1, l1, l2, bb1, ⟨cs1, o1⟩, ⟨ds1, o2⟩, ha⟩ := ans_own hA
          obtain ⟨F2, hq2⟩ := HQ.out.add (Nat.le_refl _) (Nat.le_refl _) bb1 o1 o2 ha (by rw [l1, List.length_map]; have := HLB.out.1; omega) (by rw [l2]; have := HLB.out.2; omega)
          have e1 : put hv (t) (.slice B1 N1 d1) (t) = .slice B1 N1 d1 := if_pos rfl
          have e2 : put mv (t) (.slice B2 N2 d2) (t) = .slice B2 N2 d2 := if_pos rfl
          obtain ⟨hv2, hh1⟩ : ∃ f, put hv (t) (.slice B1 N1 d1) = f := ⟨_, rfl⟩
          obtain ⟨mv2, hh2⟩ : ∃ f, put mv (t) (.slice B2 N2 d2) = f := ⟨_, rfl⟩
          obtain ⟨nh2, hh3⟩ : ∃ f, putN nh (t) N1 = f := ⟨_, rfl⟩
          obtain ⟨nm2, hh4⟩ : ∃ f, putN nm (t) N2 = f := ⟨_, rfl⟩
          rw [hh1] at e1
          rw [hh2] at e2
          rw [hh1, hh2, hh3, hh4] at hq2
          have E1 := Lib.hid e1
          have E2 := Lib.hid e2
          have HLL := Lib.hid (And.intro l1 l2)
          have bA := (Below.refl _ w1).alloc (Nat.le_refl _) (.cells #[.int .i64 PBLo, .int .i64 PBHi, .slice B1 N1 d1] 24)
          have hq3 := hq2.call bA
          have HQ3 := Lib.hid hq3
          have HR13 := Lib.hid (Row.new w1 #[.int .i64 PBLo, .int .i64 PBHi, .slice B1 N1 d1] 24)
          have HS1 := Lib.hid (s1.below bA)
          have HM1 := Lib.hid (m1.below bA)
          have HK2 := Lib.hid (HQB.out _ hq3.g.bel)
          have rx1 := (HX1.out.below bb1 HX1.out.lt).below bA (HX1.out.below bb1 HX1.out.lt).lt
          have x0 := rx1.cell 0
          have x1 := rx1.cell 1
          have x2 := rx1.cell 2
          clear rx1 HX1
          clear hA s1 m1 l1 l2 o1 o2 ha hq2 hq3 e1 e2 hh1 hh2 hh3 hh4 HK HQ bA bb1
          go_wp2_with fail
          refine HK2.out.mono ?_
          rintro e w2 hA
          obtain ⟨Q1, M1, v1, Q2, M2, v2, rfl, qs, qm, qe1, qe2, b9⟩ := Ans.shape hA
          have bB := (Below.refl _ w2).alloc (Nat.le_refl _) (.cells #[.int .i64 PBLo, .int .i64 PBHi, .slice Q1 M1 v1] 24)
          have hu1 : M1 = N1 := by rw [qe1, HLL.out.1]
          have hu2 : M2 = N2 := by rw [qe2, HLL.out.2]
          subst hu1 hu2
          have hq4 := (HQ3.out.call b9).call bB
          have HQ4 := Lib.hid hq4
          have rw3 := (HR13.out.below b9 HR13.out.lt).below bB (HR13.out.below b9 HR13.out.lt).lt
          have HR3 := Lib.hid rw3
          have HR16 := Lib.hid (Row.new w2 #[.int .i64 PBLo, .int .i64 PBHi, .slice Q1 M1 v1] 24)
          have HSA := Lib.hid (same_calls PBLo PBHi B1 Q1 M1 d1 v1 (PBN.1.map (·.2)) _ ((HS1.out.below b9).below bB) (qs.below bB) (by rw [HLL.out.1, List.length_map]; have := HLB.out.1; omega))
          have HMA1 := Lib.hid (And.intro ((HM1.out.below b9).below bB) (qm.below bB))
          have i0 := rw3.cell 0
          have i1 := rw3.cell 1
          have i2 := rw3.cell 2
          have j0 := HR16.out.cell 0
          have j1 := HR16.out.cell 1
          have j2 := HR16.out.cell 2
          clear hA b9 bB qs qm qe1 qe2 rw3 hq4 HQ3 HR13 HS1 HM1 HK2 x0 x1 x2
          go_wp2_with fail
          refine HSA.out.mono ?_
          rintro e w3 ⟨rfl, bY⟩
          have hq5 := HQ4.out.call bY
          have HSMD := Lib.hid (sameMade_calls B2 Q2 M2 d2 v2 PBN.2 w3 (HMA1.out.1.below bY) (HMA1.out.2.below bY) (by rw [HLL.out.2]; have := HLB.out.2; omega))
          have HR3' := Lib.hid (HR3.out.below bY HR3.out.lt)
          have HQ5 := Lib.hid hq5
          clear bY i0 i1 i2 j0 j1 j2 hq5 HQ4 HR16 HR3 HSA HMA1
          go_wp2_with fail
          refine HSMD.out.mono ?_
          rintro e _ ⟨rfl, kd, rfl⟩
          have hq6 := HQ5.out.call (drewN_below w3 kd)
          have i2 := (HR3'.out.below (drewN_below w3 kd) HR3'.out.lt).cell 2
          obtain ⟨w4, hw4⟩ : ∃ w4, w3.drewN kd = w4 := ⟨_, rfl⟩
          rw [hw4] at hq6 i2 ⊢
          have HST := Lib.hid (fun ty => (hq6.call ((Below.refl _ w4).alloc (Nat.le_refl _) (.cells #[.slice B1 M1 d1] 22))).step0 (by omega) w4.heap.size (by rw [E1.out]; exact heap_alloc_new _ _) (by rw [E1.out]; rfl) ty)
          clear hq6 HQ5 HR3' HSMD hw4
          go_wp2_with (first
            | (at_builtin; refine wpList_appG rfl (.tmp 68) (.tmp 71) 88 rfl _ _ rfl rfl _ (HST.out _) ?_; intro ho2 w5 h1; obtain ⟨F4, h1⟩ := h1; have HSM := Lib.hid (fun ty => (h1.call ((Below.refl _ w5).alloc (Nat.le_refl _) (.cells #[.slice B2 M2 d2] 40))).step1 (by omega) w5.heap.size (by rw [E2.out]; exact heap_alloc_new _ _) (by rw [E2.out]; rfl) ty); clear h1 HST)
            | (at_builtin; refine wpList_appG rfl (.tmp 73) (.tmp 75) 89 rfl _ _ rfl rfl _ (HSM.out _) ?_; intro mo2 w6 h1; have HNX := Lib.hid h1; clear h1 HSM))
          refine ⟨⟨t + 1, ho2, mo2, rfl, rfl, by go_num, by omega, Lib.hid ⟨_, _, _, _, HNX.out⟩⟩, ?_⟩
          simp only [intOf]
          omega
        · have t3 : ((t : Int) == 3) = false := by simp; omega
          have bx := (Below.refl _ wr).alloc (Nat.le_refl _) (.cells #[.int .i64 alo, .int .i64 ahi, .slice A n c] 24)
          have hq := HR.out.call bx
          have HK := Lib.hid (HPA.out _ hq.g.bel)
          have HQ := Lib.hid hq
          have HX1 := Lib.hid (Row.new wr #[.int .i64 alo, .int .i64 ahi, .slice A n c] 24)
          clear hq bx HR
          go_wp2_with fail
          clear a0 a1 a2 c0 c1 c2
          refine HK.out.mono ?_
          rintro e w1 hA
          obtain ⟨B1, N1, d1, B2, N2, d2, rfl, s1, m1, l1, l2, bb1, ⟨cs1, o1⟩, ⟨ds1, o2⟩, ha⟩ := ans_own hA
          obtain ⟨F2, hq2⟩ := HQ.out.add (Nat.le_refl _) (Nat.le_refl _) bb1 o1 o2 ha (by rw [l1, List.length_map]; have := HLA.out.1; omega) (by rw [l2]; have := HLA.out.2; omega)
          have e1 : put hv (t) (.slice B1 N1 d1) (t) = .slice B1 N1 d1 := if_pos rfl
          have e2 : put mv (t) (.slice B2 N2 d2) (t) = .slice B2 N2 d2 := if_pos rfl
          obtain ⟨hv2, hh1⟩ : ∃ f, put hv (t) (.slice B1 N1 d1) = f := ⟨_, rfl⟩
          obtain ⟨mv2, hh2⟩ : ∃ f, put mv (t) (.slice B2 N2 d2) = f := ⟨_, rfl⟩
          obtain ⟨nh2, hh3⟩ : ∃ f, putN nh (t) N1 = f := ⟨_, rfl⟩
          obtain ⟨nm2, hh4⟩ : ∃ f, putN nm (t) N2 = f := ⟨_, rfl⟩
          rw [hh1] at e1
          rw [hh2] at e2
          rw [hh1, hh2, hh3, hh4] at hq2
          have E1 := Lib.hid e1
          have E2 := Lib.hid e2
          have HLL := Lib.hid (And.intro l1 l2)
          have bA := (Below.refl _ w1).alloc (Nat.le_refl _) (.cells #[.int .i64 PALo, .int .i64 PAHi, .slice B1 N1 d1] 24)
          have hq3 := hq2.call bA
          have HQ3 := Lib.hid hq3
          have HR13 := Lib.hid (Row.new w1 #[.int .i64 PALo, .int .i64 PAHi, .slice B1 N1 d1] 24)
          have HS1 := Lib.hid (s1.below bA)
          have HM1 := Lib.hid (m1.below bA)
          have HK2 := Lib.hid (HQA.out _ hq3.g.bel)
          have rx1 := (HX1.out.below bb1 HX1.out.lt).below bA (HX1.out.below bb1 HX1.out.lt).lt
          have x0 := rx1.cell 0
          have x1 := rx1.cell 1
          have x2 := rx1.cell 2
          clear rx1 HX1
          clear hA s1 m1 l1 l2 o1 o2 ha hq2 hq3 e1 e2 hh1 hh2 hh3 hh4 HK HQ bA bb1
          go_wp2_with fail
          refine HK2.out.mono ?_
          rintro e w2 hA
          obtain ⟨Q1, M1, v1, Q2, M2, v2, rfl, qs, qm, qe1, qe2, b9⟩ := Ans.shape hA
          have bB := (Below.refl _ w2).alloc (Nat.le_refl _) (.cells #[.int .i64 PALo, .int .i64 PAHi, .slice Q1 M1 v1] 24)
          have hu1 : M1 = N1 := by rw [qe1, HLL.out.1]
          have hu2 : M2 = N2 := by rw [qe2, HLL.out.2]
          subst hu1 hu2
          have hq4 := (HQ3.out.call b9).call bB
          have HQ4 := Lib.hid hq4
          have rw3 := (HR13.out.below b9 HR13.out.lt).below bB (HR13.out.below b9 HR13.out.lt).lt
          have HR3 := Lib.hid rw3
          have HR16 := Lib.hid (Row.new w2 #[.int .i64 PALo, .int .i64 PAHi, .slice Q1 M1 v1] 24)
          have HSA := Lib.hid (same_calls PALo PAHi B1 Q1 M1 d1 v1 (PAN.1.map (·.2)) _ ((HS1.out.below b9).below bB) (qs.below bB) (by rw [HLL.out.1, List.length_map]; have := HLA.out.1; omega))
          have HMA1 := Lib.hid (And.intro ((HM1.out.below b9).below bB) (qm.below bB))
          have i0 := rw3.cell 0
          have i1 := rw3.cell 1
          have i2 := rw3.cell 2
          have j0 := HR16.out.cell 0
          have j1 := HR16.out.cell 1
          have j2 := HR16.out.cell 2
          clear hA b9 bB qs qm qe1 qe2 rw3 hq4 HQ3 HR13 HS1 HM1 HK2 x0 x1 x2
          go_wp2_with fail
          refine HSA.out.mono ?_
          rintro e w3 ⟨rfl, bY⟩
          have hq5 := HQ4.out.call bY
          have HSMD := Lib.hid (sameMade_calls B2 Q2 M2 d2 v2 PAN.2 w3 (HMA1.out.1.below bY) (HMA1.out.2.below bY) (by rw [HLL.out.2]; have := HLA.out.2; omega))
          have HR3' := Lib.hid (HR3.out.below bY HR3.out.lt)
          have HQ5 := Lib.hid hq5
          clear bY i0 i1 i2 j0 j1 j2 hq5 HQ4 HR16 HR3 HSA HMA1
          go_wp2_with fail
          refine HSMD.out.mono ?_
          rintro e _ ⟨rfl, kd, rfl⟩
          have hq6 := HQ5.out.call (drewN_below w3 kd)
          have i2 := (HR3'.out.below (drewN_below w3 kd) HR3'.out.lt).cell 2
          obtain ⟨w4, hw4⟩ : ∃ w4, w3.drewN kd = w4 := ⟨_, rfl⟩
          rw [hw4] at hq6 i2 ⊢
          have HST := Lib.hid (fun ty => (hq6.call ((Below.refl _ w4).alloc (Nat.le_refl _) (.cells #[.slice B1 M1 d1] 22))).step0 (by omega) w4.heap.size (by rw [E1.out]; exact heap_alloc_new _ _) (by rw [E1.out]; rfl) ty)
          clear hq6 HQ5 HR3' HSMD hw4
          go_wp2_with (first
            | (at_builtin; refine wpList_appG rfl (.tmp 68) (.tmp 71) 88 rfl _ _ rfl rfl _ (HST.out _) ?_; intro ho2 w5 h1; obtain ⟨F4, h1⟩ := h1; have HSM := Lib.hid (fun ty => (h1.call ((Below.refl _ w5).alloc (Nat.le_refl _) (.cells #[.slice B2 M2 d2] 40))).step1 (by omega) w5.heap.size (by rw [E2.out]; exact heap_alloc_new _ _) (by rw [E2.out]; rfl) ty); clear h1 HST)
            | (at_builtin; refine wpList_appG rfl (.tmp 73) (.tmp 75) 89 rfl _ _ rfl rfl _ (HSM.out _) ?_; intro mo2 w6 h1; have HNX := Lib.hid h1; clear h1 HSM))
          refine ⟨⟨t + 1, ho2, mo2, rfl, rfl, by go_num, by omega, Lib.hid ⟨_, _, _, _, HNX.out⟩⟩, ?_⟩
          simp only [intOf]
          omega
    · obtain rfl : t = 5 := by omega
      have HA1 := HR
      clear hr HR a0 a1 a2 b0 b1 b2 c0 c1 c2
      go_wp2
      go_loopw [9, 10, 20] (fun s9 s10 s20 wr => ∃ (u : Nat) (ho mo : Value), ho = s9 ∧ mo = s10 ∧ s20 = .int .i64 (u : Int) ∧ u ≤ 5 ∧ Hid (∃ hv mv nh nm F, AK w #[.int .i64 alo, .int .i64 ahi, .slice A n c] #[.int .i64 blo, .int .i64 bhi, .slice B m d] hv mv nh nm ho mo (5 + u) (5 + u) (5 + u) F wr)) (fun _ _ s20 _ => 5 - (intOf s20).toNat)
      case atStart => exact ⟨0, _, _, rfl, rfl, rfl, by omega, Lib.hid ⟨_, _, _, _, _, HA1.out⟩⟩
      case round =>
        clear HA1
        obtain ⟨t, ho, mo, rfl, rfl, rfl, ht, hr⟩ := hrel
        obtain ⟨hv, mv, nh, nm, F, hr⟩ := hr.out
        have HR := Lib.hid hr
        by_cases hlt : t < 5
        · have t1 : (t : Int) < 5 := by omega
          have a0 := hr.ra.cell 0
          have a1 := hr.ra.cell 1
          have a2 := hr.ra.cell 2
          have c0 := (hr.rb.alloc (.cells #[.int .i64 alo, .int .i64 ahi, .slice A n c] 24)).cell 0
          have c1 := (hr.rb.alloc (.cells #[.int .i64 alo, .int .i64 ahi, .slice A n c] 24)).cell 1
          have c2 := (hr.rb.alloc (.cells #[.int .i64 alo, .int .i64 ahi, .slice A n c] 24)).cell 2
          have rb2 := (hr.rb.alloc (.cells #[.int .i64 alo, .int .i64 ahi, .slice A n c] 24)).alloc (.cells #[.int .i64 blo, .int .i64 bhi, .slice B m d] 24)
          have ra2 := (hr.ra.alloc (.cells #[.int .i64 blo, .int .i64 bhi, .slice B m d] 24)).alloc (.cells #[.int .i64 blo, .int .i64 bhi, .slice B m d] 24)
          have f0 := rb2.cell 0
          have f1 := rb2.cell 1
          have f2 := rb2.cell 2
          have g0 := ra2.cell 0
          have g1 := ra2.cell 1
          have g2 := ra2.cell 2
          clear hr rb2 ra2
          by_cases h2 : t = 2
          · have t2 : ((t : Int) == 2) = true := by simp; omega
            have bx := (Below.refl _ wr).alloc (Nat.le_refl _) (.cells #[.int .i64 blo, .int .i64 bhi, .slice B m d] 24)
            have by2 := (Below.refl _ (wr.alloc (.cells #[.int .i64 blo, .int .i64 bhi, .slice B m d] 24))).alloc (Nat.le_refl _) (.cells #[.int .i64 alo, .int .i64 ahi, .slice A n c] 24)
            have hq := (HR.out.call bx).call by2
            have HK := Lib.hid (HMB.out _ hq.g.bel)
            have HQ := Lib.hid hq
            have HX1 := Lib.hid ((Row.new wr #[.int .i64 blo, .int .i64 bhi, .slice B m d] 24).alloc (.cells #[.int .i64 alo, .int .i64 ahi, .slice A n c] 24))
            have HX2 := Row.new (wr.alloc (.cells #[.int .i64 blo, .int .i64 bhi, .slice B m d] 24)) #[.int .i64 alo, .int .i64 ahi, .slice A n c] 24
            rw [World.size_alloc] at HX2
            replace HX2 := Lib.hid HX2
            clear hq bx by2 HR
            go_wp2_with fail
            clear a0 a1 a2 c0 c1 c2 f0 f1 f2 g0 g1 g2
            refine HK.out.mono ?_
            rintro e w1 hA
            obtain ⟨B1, N1, d1, B2, N2, d2, rfl, s1, m1, l1, l2, bb1, ⟨cs1, o1⟩, ⟨ds1, o2⟩, ha⟩ := ans_own hA
            obtain ⟨F2, hq2⟩ := HQ.out.add (Nat.le_refl _) (Nat.le_refl _) bb1 o1 o2 ha (by rw [l1, List.length_map]; have := HKB.out.1; omega) (by rw [l2]; have := HKB.out.2; omega)
            have e1 : put hv (5 + t) (.slice B1 N1 d1) (5 + t) = .slice B1 N1 d1 := if_pos rfl
            have e2 : put mv (5 + t) (.slice B2 N2 d2) (5 + t) = .slice B2 N2 d2 := if_pos rfl
            obtain ⟨hv2, hh1⟩ : ∃ f, put hv (5 + t) (.slice B1 N1 d1) = f := ⟨_, rfl⟩
            obtain ⟨mv2, hh2⟩ : ∃ f, put mv (5 + t) (.slice B2 N2 d2) = f := ⟨_, rfl⟩
            obtain ⟨nh2, hh3⟩ : ∃ f, putN nh (5 + t) N1 = f := ⟨_, rfl⟩
            obtain ⟨nm2, hh4⟩ : ∃ f, putN nm (5 + t) N2 = f := ⟨_, rfl⟩
            rw [hh1] at e1
            rw [hh2] at e2
            rw [hh1, hh2, hh3, hh4] at hq2
            have E1 := Lib.hid e1
            have E2 := Lib.hid e2
            have HLL := Lib.hid (And.intro l1 l2)
            have bA := (Below.refl _ w1).alloc (Nat.le_refl _) (.cells #[.int .i64 MBLo, .int .i64 MBHi, .slice B1 N1 d1] 24)
            have hq3 := hq2.call bA
            have HQ3 := Lib.hid hq3
            have HR13 := Lib.hid (Row.new w1 #[.int .i64 MBLo, .int .i64 MBHi, .slice B1 N1 d1] 24)
            have HS1 := Lib.hid (s1.below bA)
            have HM1 := Lib.hid (m1.below bA)
            have HK2 := Lib.hid (HNB.out _ hq3.g.bel)
            have rx1 := (HX1.out.below bb1 HX1.out.lt).below bA (HX1.out.below bb1 HX1.out.lt).lt
            have rx2 := (HX2.out.below bb1 HX2.out.lt).below bA (HX2.out.below bb1 HX2.out.lt).lt
            have x0 := rx1.cell 0
            have x1 := rx1.cell 1
            have x2 := rx1.cell 2
            have y0 := rx2.cell 0
            have y1 := rx2.cell 1
            have y2 := rx2.cell 2
            clear rx1 rx2 HX1 HX2
            clear hA s1 m1 l1 l2 o1 o2 ha hq2 hq3 e1 e2 hh1 hh2 hh3 hh4 HK HQ bA bb1
            go_wp2_with fail
            refine HK2.out.mono ?_
            rintro e w2 hA
            obtain ⟨Q1, M1, v1, Q2, M2, v2, rfl, qs, qm, qe1, qe2, b9⟩ := Ans.shape hA
            have bB := (Below.refl _ w2).alloc (Nat.le_refl _) (.cells #[.int .i64 MBLo, .int .i64 MBHi, .slice Q1 M1 v1] 24)
            have hu1 : M1 = N1 := by rw [qe1, HLL.out.1]
            have hu2 : M2 = N2 := by rw [qe2, HLL.out.2]
            subst hu1 hu2
            have hq4 := (HQ3.out.call b9).call bB
            have HQ4 := Lib.hid hq4
            have rw3 := (HR13.out.below b9 HR13.out.lt).below bB (HR13.out.below b9 HR13.out.lt).lt
            have HR3 := Lib.hid rw3
            have HR16 := Lib.hid (Row.new w2 #[.int .i64 MBLo, .int .i64 MBHi, .slice Q1 M1 v1] 24)
            have HSA := Lib.hid (same_calls MBLo MBHi B1 Q1 M1 d1 v1 (MBN.1.map (·.2)) _ ((HS1.out.below b9).below bB) (qs.below bB) (by rw [HLL.out.1, List.length_map]; have := HKB.out.1; omega))
            have HMA1 := Lib.hid (And.intro ((HM1.out.below b9).below bB) (qm.below bB))
            have i0 := rw3.cell 0
            have i1 := rw3.cell 1
            have i2 := rw3.cell 2
            have j0 := HR16.out.cell 0
            have j1 := HR16.out.cell 1
            have j2 := HR16.out.cell 2
            clear hA b9 bB qs qm qe1 qe2 rw3 hq4 HQ3 HR13 HS1 HM1 HK2 x0 x1 x2 y0 y1 y2
            go_wp2_with fail
            refine HSA.out.mono ?_
            rintro e w3 ⟨rfl, bY⟩
            have hq5 := HQ4.out.call bY
            have HSMD := Lib.hid (sameMade_calls B2 Q2 M2 d2 v2 MBN.2 w3 (HMA1.out.1.below bY) (HMA1.out.2.below bY) (by rw [HLL.out.2]; have := HKB.out.2; omega))
            have HR3' := Lib.hid (HR3.out.below bY HR3.out.lt)
            have HQ5 := Lib.hid hq5
            clear bY i0 i1 i2 j0 j1 j2 hq5 HQ4 HR16 HR3 HSA HMA1
            go_wp2_with fail
            refine HSMD.out.mono ?_
            rintro e _ ⟨rfl, kd, rfl⟩
            have hq6 := HQ5.out.call (drewN_below w3 kd)
            have i2 := (HR3'.out.below (drewN_below w3 kd) HR3'.out.lt).cell 2
            obtain ⟨w4, hw4⟩ : ∃ w4, w3.drewN kd = w4 := ⟨_, rfl⟩
            rw [hw4] at hq6 i2 ⊢
            have HST := Lib.hid (fun ty => (hq6.call ((Below.refl _ w4).alloc (Nat.le_refl _) (.cells #[.slice B1 M1 d1] 22))).step0 (by omega) w4.heap.size (by rw [E1.out]; exact heap_alloc_new _ _) (by rw [E1.out]; rfl) ty)
            clear hq6 HQ5 HR3' HSMD hw4
            go_wp2_with (first
              | (at_builtin; refine wpList_appG rfl (.tmp 117) (.tmp 120) 88 rfl _ _ rfl rfl _ (HST.out _) ?_; intro ho2 w5 h1; obtain ⟨F4, h1⟩ := h1; have HSM := Lib.hid (fun ty => (h1.call ((Below.refl _ w5).alloc (Nat.le_refl _) (.cells #[.slice B2 M2 d2] 40))).step1 (by omega) w5.heap.size (by rw [E2.out]; exact heap_alloc_new _ _) (by rw [E2.out]; rfl) ty); clear h1 HST)
              | (at_builtin; refine wpList_appG rfl (.tmp 122) (.tmp 124) 89 rfl _ _ rfl rfl _ (HSM.out _) ?_; intro mo2 w6 h1; have HNX := Lib.hid h1; clear h1 HSM))
            refine ⟨?_, ?_⟩
            · (repeat apply Exists.intro)
              refine ⟨?_, rfl⟩
              exact ⟨t + 1, ho2, mo2, rfl, rfl, by go_num, by omega, Lib.hid ⟨_, _, _, _, HNX.out⟩⟩
            · first
                | (show 5 - ((t : Int) + 1).toNat < 5 - ((t : Nat) : Int).toNat; omega)
                | (show 5 - (3 : Int).toNat < 5 - ((t : Nat) : Int).toNat; omega)
                | (show 5 - (4 : Int).toNat < 5 - ((t : Nat) : Int).toNat; omega)
          · have t2 : ((t : Int) == 2) = false := by simp; omega
            by_cases h3 : t = 3
            · have t3 : ((t : Int) == 3) = true := by simp; omega
              have bx := (Below.refl _ wr).alloc (Nat.le_refl _) (.cells #[.int .i64 blo, .int .i64 bhi, .slice B m d] 24)
              have by2 := (Below.refl _ (wr.alloc (.cells #[.int .i64 blo, .int .i64 bhi, .slice B m d] 24))).alloc (Nat.le_refl _) (.cells #[.int .i64 alo, .int .i64 ahi, .slice A n c] 24)
              have hq := (HR.out.call bx).call by2
              have HK := Lib.hid (HMB.out _ hq.g.bel)
              have HQ := Lib.hid hq
              have HX1 := Lib.hid ((Row.new wr #[.int .i64 blo, .int .i64 bhi, .slice B m d] 24).alloc (.cells #[.int .i64 alo, .int .i64 ahi, .slice A n c] 24))
              have HX2 := Row.new (wr.alloc (.cells #[.int .i64 blo, .int .i64 bhi, .slice B m d] 24)) #[.int .i64 alo, .int .i64 ahi, .slice A n c] 24
              rw [World.size_alloc] at HX2
              replace HX2 := Lib.hid HX2
              clear hq bx by2 HR
              go_wp2_with fail
              clear a0 a1 a2 c0 c1 c2 f0 f1 f2 g0 g1 g2
              refine HK.out.mono ?_
              rintro e w1 hA
              obtain ⟨B1, N1, d1, B2, N2, d2, rfl, s1, m1, l1, l2, bb1, ⟨cs1, o1⟩, ⟨ds1, o2⟩, ha⟩ := ans_own hA
              obtain ⟨F2, hq2⟩ := HQ.out.add (Nat.le_refl _) (Nat.le_refl _) bb1 o1 o2 ha (by rw [l1, List.length_map]; have := HKB.out.1; omega) (by rw [l2]; have := HKB.out.2; omega)
              have e1 : put hv (5 + t) (.slice B1 N1 d1) (5 + t) = .slice B1 N1 d1 := if_pos rfl
              have e2 : put mv (5 + t) (.slice B2 N2 d2) (5 + t) = .slice B2 N2 d2 := if_pos rfl
              obtain ⟨hv2, hh1⟩ : ∃ f, put hv (5 + t) (.slice B1 N1 d1) = f := ⟨_, rfl⟩
              obtain ⟨mv2, hh2⟩ : ∃ f, put mv (5 + t) (.slice B2 N2 d2) = f := ⟨_, rfl⟩
              obtain ⟨nh2, hh3⟩ : ∃ f, putN nh (5 + t) N1 = f := ⟨_, rfl⟩
              obtain ⟨nm2, hh4⟩ : ∃ f, putN nm (5 + t) N2 = f := ⟨_, rfl⟩
              rw [hh1] at e1
              rw [hh2] at e2
              rw [hh1, hh2, hh3, hh4] at hq2
              have E1 := Lib.hid e1
              have E2 := Lib.hid e2
              have HLL := Lib.hid (And.intro l1 l2)
              have bA := (Below.refl _ w1).alloc (Nat.le_refl _) (.cells #[.int .i64 MBLo, .int .i64 MBHi, .slice B1 N1 d1] 24)
              have hq3 := hq2.call bA
              have HQ3 := Lib.hid hq3
              have HR13 := Lib.hid (Row.new w1 #[.int .i64 MBLo, .int .i64 MBHi, .slice B1 N1 d1] 24)
              have HS1 := Lib.hid (s1.below bA)
              have HM1 := Lib.hid (m1.below bA)
              have HK2 := Lib.hid (HNB.out _ hq3.g.bel)
              have rx1 := (HX1.out.below bb1 HX1.out.lt).below bA (HX1.out.below bb1 HX1.out.lt).lt
              have rx2 := (HX2.out.below bb1 HX2.out.lt).below bA (HX2.out.below bb1 HX2.out.lt).lt
              have x0 := rx1.cell 0
              have x1 := rx1.cell 1
              have x2 := rx1.cell 2
              have y0 := rx2.cell 0
              have y1 := rx2.cell 1
              have y2 := rx2.cell 2
              clear rx1 rx2 HX1 HX2
              clear hA s1 m1 l1 l2 o1 o2 ha hq2 hq3 e1 e2 hh1 hh2 hh3 hh4 HK HQ bA bb1
              go_wp2_with fail
              refine HK2.out.mono ?_
              rintro e w2 hA
              obtain ⟨Q1, M1, v1, Q2, M2, v2, rfl, qs, qm, qe1, qe2, b9⟩ := Ans.shape hA
              have bB := (Below.refl _ w2).alloc (Nat.le_refl _) (.cells #[.int .i64 MBLo, .int .i64 MBHi, .slice Q1 M1 v1] 24)
              have hu1 : M1 = N1 := by rw [qe1, HLL.out.1]
              have hu2 : M2 = N2 := by rw [qe2, HLL.out.2]
              subst hu1 hu2
              have hq4 := (HQ3.out.call b9).call bB
              have HQ4 := Lib.hid hq4
              have rw3 := (HR13.out.below b9 HR13.out.lt).below bB (HR13.out.below b9 HR13.out.lt).lt
              have HR3 := Lib.hid rw3
              have HR16 := Lib.hid (Row.new w2 #[.int .i64 MBLo, .int .i64 MBHi, .slice Q1 M1 v1] 24)
              have HSA := Lib.hid (same_calls MBLo MBHi B1 Q1 M1 d1 v1 (MBN.1.map (·.2)) _ ((HS1.out.below b9).below bB) (qs.below bB) (by rw [HLL.out.1, List.length_map]; have := HKB.out.1; omega))
              have HMA1 := Lib.hid (And.intro ((HM1.out.below b9).below bB) (qm.below bB))
              have i0 := rw3.cell 0
              have i1 := rw3.cell 1
              have i2 := rw3.cell 2
              have j0 := HR16.out.cell 0
              have j1 := HR16.out.cell 1
              have j2 := HR16.out.cell 2
              clear hA b9 bB qs qm qe1 qe2 rw3 hq4 HQ3 HR13 HS1 HM1 HK2 x0 x1 x2 y0 y1 y2
              go_wp2_with fail
              refine HSA.out.mono ?_
              rintro e w3 ⟨rfl, bY⟩
              have hq5 := HQ4.out.call bY
              have HSMD := Lib.hid (sameMade_calls B2 Q2 M2 d2 v2 MBN.2 w3 (HMA1.out.1.below bY) (HMA1.out.2.below bY) (by rw [HLL.out.2]; have := HKB.out.2; omega))
              have HR3' := Lib.hid (HR3.out.below bY HR3.out.lt)
              have HQ5 := Lib.hid hq5
              clear bY i0 i1 i2 j0 j1 j2 hq5 HQ4 HR16 HR3 HSA HMA1
              go_wp2_with fail
              refine HSMD.out.mono ?_
              rintro e _ ⟨rfl, kd, rfl⟩
              have hq6 := HQ5.out.call (drewN_below w3 kd)
              have i2 := (HR3'.out.below (drewN_below w3 kd) HR3'.out.lt).cell 2
              obtain ⟨w4, hw4⟩ : ∃ w4, w3.drewN kd = w4 := ⟨_, rfl⟩
              rw [hw4] at hq6 i2 ⊢
              have HST := Lib.hid (fun ty => (hq6.call ((Below.refl _ w4).alloc (Nat.le_refl _) (.cells #[.slice B1 M1 d1] 22))).step0 (by omega) w4.heap.size (by rw [E1.out]; exact heap_alloc_new _ _) (by rw [E1.out]; rfl) ty)
              clear hq6 HQ5 HR3' HSMD hw4
              go_wp2_with (first
                | (at_builtin; refine wpList_appG rfl (.tmp 117) (.tmp 120) 88 rfl _ _ rfl rfl _ (HST.out _) ?_; intro ho2 w5 h1; obtain ⟨F4, h1⟩ := h1; have HSM := Lib.hid (fun ty => (h1.call ((Below.refl _ w5).alloc (Nat.le_refl _) (.cells #[.slice B2 M2 d2] 40))).step1 (by omega) w5.heap.size (by rw [E2.out]; exact heap_alloc_new _ _) (by rw [E2.out]; rfl) ty); clear h1 HST)
                | (at_builtin; refine wpList_appG rfl (.tmp 122) (.tmp 124) 89 rfl _ _ rfl rfl _ (HSM.out _) ?_; intro mo2 w6 h1; have HNX := Lib.hid h1; clear h1 HSM))
              refine ⟨?_, ?_⟩
              · (repeat apply Exists.intro)
                refine ⟨?_, rfl⟩
                exact ⟨t + 1, ho2, mo2, rfl, rfl, by go_num, by omega, Lib.hid ⟨_, _, _, _, HNX.out⟩⟩
              · first
                  | (show 5 - ((t : Int) + 1).toNat < 5 - ((t : Nat) : Int).toNat; omega)
                  | (show 5 - (3 : Int).toNat < 5 - ((t : Nat) : Int).toNat; omega)
                  | (show 5 - (4 : Int).toNat < 5 - ((t : Nat) : Int).toNat; omega)
            · have t3 : ((t : Int) == 3) = false := by simp; omega
              have bx := (Below.refl _ wr).alloc (Nat.le_refl _) (.cells #[.int .i64 alo, .int .i64 ahi, .slice A n c] 24)
              have by2 := (Below.refl _ (wr.alloc (.cells #[.int .i64 alo, .int .i64 ahi, .slice A n c] 24))).alloc (Nat.le_refl _) (.cells #[.int .i64 blo, .int .i64 bhi, .slice B m d] 24)
              have hq := (HR.out.call bx).call by2
              have HK := Lib.hid (HMA.out _ hq.g.bel)
              have HQ := Lib.hid hq
              have HX1 := Lib.hid ((Row.new wr #[.int .i64 alo, .int .i64 ahi, .slice A n c] 24).alloc (.cells #[.int .i64 blo, .int .i64 bhi, .slice B m d] 24))
              have HX2 := Row.new (wr.alloc (.cells #[.int .i64 alo, .int .i64 ahi, .slice A n c] 24)) #[.int .i64 blo, .int .i64 bhi, .slice B m d] 24
              rw [World.size_alloc] at HX2
              replace HX2 := Lib.hid HX2
              clear hq bx by2 HR
              go_wp2_with fail
              clear a0 a1 a2 c0 c1 c2 f0 f1 f2 g0 g1 g2
              refine HK.out.mono ?_
              rintro e w1 hA
              obtain ⟨B1, N1, d1, B2, N2, d2, rfl, s1, m1, l1, l2, bb1, ⟨cs1, o1⟩, ⟨ds1, o2⟩, ha⟩ := ans_own hA
              obtain ⟨F2, hq2⟩ := HQ.out.add (Nat.le_refl _) (Nat.le_refl _) bb1 o1 o2 ha (by rw [l1, List.length_map]; have := HKA.out.1; omega) (by rw [l2]; have := HKA.out.2; omega)
              have e1 : put hv (5 + t) (.slice B1 N1 d1) (5 + t) = .slice B1 N1 d1 := if_pos rfl
              have e2 : put mv (5 + t) (.slice B2 N2 d2) (5 + t) = .slice B2 N2 d2 := if_pos rfl
              obtain ⟨hv2, hh1⟩ : ∃ f, put hv (5 + t) (.slice B1 N1 d1) = f := ⟨_, rfl⟩
              obtain ⟨mv2, hh2⟩ : ∃ f, put mv (5 + t) (.slice B2 N2 d2) = f := ⟨_, rfl⟩
              obtain ⟨nh2, hh3⟩ : ∃ f, putN nh (5 + t) N1 = f := ⟨_, rfl⟩
              obtain ⟨nm2, hh4⟩ : ∃ f, putN nm (5 + t) N2 = f := ⟨_, rfl⟩
              rw [hh1] at e1
              rw [hh2] at e2
              rw [hh1, hh2, hh3, hh4] at hq2
              have E1 := Lib.hid e1
              have E2 := Lib.hid e2
              have HLL := Lib.hid (And.intro l1 l2)
              have bA := (Below.refl _ w1).alloc (Nat.le_refl _) (.cells #[.int .i64 MALo, .int .i64 MAHi, .slice B1 N1 d1] 24)
              have hq3 := hq2.call bA
              have HQ3 := Lib.hid hq3
              have HR13 := Lib.hid (Row.new w1 #[.int .i64 MALo, .int .i64 MAHi, .slice B1 N1 d1] 24)
              have HS1 := Lib.hid (s1.below bA)
              have HM1 := Lib.hid (m1.below bA)
              have HK2 := Lib.hid (HNA.out _ hq3.g.bel)
              have rx1 := (HX1.out.below bb1 HX1.out.lt).below bA (HX1.out.below bb1 HX1.out.lt).lt
              have rx2 := (HX2.out.below bb1 HX2.out.lt).below bA (HX2.out.below bb1 HX2.out.lt).lt
              have x0 := rx1.cell 0
              have x1 := rx1.cell 1
              have x2 := rx1.cell 2
              have y0 := rx2.cell 0
              have y1 := rx2.cell 1
              have y2 := rx2.cell 2
              clear rx1 rx2 HX1 HX2
              clear hA s1 m1 l1 l2 o1 o2 ha hq2 hq3 e1 e2 hh1 hh2 hh3 hh4 HK HQ bA bb1
              go_wp2_with fail
              refine HK2.out.mono ?_
              rintro e w2 hA
              obtain ⟨Q1, M1, v1, Q2, M2, v2, rfl, qs, qm, qe1, qe2, b9⟩ := Ans.shape hA
              have bB := (Below.refl _ w2).alloc (Nat.le_refl _) (.cells #[.int .i64 MALo, .int .i64 MAHi, .slice Q1 M1 v1] 24)
              have hu1 : M1 = N1 := by rw [qe1, HLL.out.1]
              have hu2 : M2 = N2 := by rw [qe2, HLL.out.2]
              subst hu1 hu2
              have hq4 := (HQ3.out.call b9).call bB
              have HQ4 := Lib.hid hq4
              have rw3 := (HR13.out.below b9 HR13.out.lt).below bB (HR13.out.below b9 HR13.out.lt).lt
              have HR3 := Lib.hid rw3
              have HR16 := Lib.hid (Row.new w2 #[.int .i64 MALo, .int .i64 MAHi, .slice Q1 M1 v1] 24)
              have HSA := Lib.hid (same_calls MALo MAHi B1 Q1 M1 d1 v1 (MAN.1.map (·.2)) _ ((HS1.out.below b9).below bB) (qs.below bB) (by rw [HLL.out.1, List.length_map]; have := HKA.out.1; omega))
              have HMA1 := Lib.hid (And.intro ((HM1.out.below b9).below bB) (qm.below bB))
              have i0 := rw3.cell 0
              have i1 := rw3.cell 1
              have i2 := rw3.cell 2
              have j0 := HR16.out.cell 0
              have j1 := HR16.out.cell 1
              have j2 := HR16.out.cell 2
              clear hA b9 bB qs qm qe1 qe2 rw3 hq4 HQ3 HR13 HS1 HM1 HK2 x0 x1 x2 y0 y1 y2
              go_wp2_with fail
              refine HSA.out.mono ?_
              rintro e w3 ⟨rfl, bY⟩
              have hq5 := HQ4.out.call bY
              have HSMD := Lib.hid (sameMade_calls B2 Q2 M2 d2 v2 MAN.2 w3 (HMA1.out.1.below bY) (HMA1.out.2.below bY) (by rw [HLL.out.2]; have := HKA.out.2; omega))
              have HR3' := Lib.hid (HR3.out.below bY HR3.out.lt)
              have HQ5 := Lib.hid hq5
              clear bY i0 i1 i2 j0 j1 j2 hq5 HQ4 HR16 HR3 HSA HMA1
              go_wp2_with fail
              refine HSMD.out.mono ?_
              rintro e _ ⟨rfl, kd, rfl⟩
              have hq6 := HQ5.out.call (drewN_below w3 kd)
              have i2 := (HR3'.out.below (drewN_below w3 kd) HR3'.out.lt).cell 2
              obtain ⟨w4, hw4⟩ : ∃ w4, w3.drewN kd = w4 := ⟨_, rfl⟩
              rw [hw4] at hq6 i2 ⊢
              have HST := Lib.hid (fun ty => (hq6.call ((Below.refl _ w4).alloc (Nat.le_refl _) (.cells #[.slice B1 M1 d1] 22))).step0 (by omega) w4.heap.size (by rw [E1.out]; exact heap_alloc_new _ _) (by rw [E1.out]; rfl) ty)
              clear hq6 HQ5 HR3' HSMD hw4
              go_wp2_with (first
                | (at_builtin; refine wpList_appG rfl (.tmp 117) (.tmp 120) 88 rfl _ _ rfl rfl _ (HST.out _) ?_; intro ho2 w5 h1; obtain ⟨F4, h1⟩ := h1; have HSM := Lib.hid (fun ty => (h1.call ((Below.refl _ w5).alloc (Nat.le_refl _) (.cells #[.slice B2 M2 d2] 40))).step1 (by omega) w5.heap.size (by rw [E2.out]; exact heap_alloc_new _ _) (by rw [E2.out]; rfl) ty); clear h1 HST)
                | (at_builtin; refine wpList_appG rfl (.tmp 122) (.tmp 124) 89 rfl _ _ rfl rfl _ (HSM.out _) ?_; intro mo2 w6 h1; have HNX := Lib.hid h1; clear h1 HSM))
              refine ⟨?_, ?_⟩
              · (repeat apply Exists.intro)
                refine ⟨?_, rfl⟩
                exact ⟨t + 1, ho2, mo2, rfl, rfl, by go_num, by omega, Lib.hid ⟨_, _, _, _, HNX.out⟩⟩
              · first
                  | (show 5 - ((t : Int) + 1).toNat < 5 - ((t : Nat) : Int).toNat; omega)
                  | (show 5 - (3 : Int).toNat < 5 - ((t : Nat) : Int).toNat; omega)
                  | (show 5 - (4 : Int).toNat < 5 - ((t : Nat) : Int).toNat; omega)
        · obtain rfl : t = 5 := by omega
          obtain ⟨A2, c2, B2, d2, F', rfl, rfl, hs, hg, hn2⟩ := hr.done
          have HAP := Lib.hid (apart_calls hv mv nh nm A2 c2 B2 d2 F' w wr hs hg hn2)
          clear hr hs hg hn2 HR
          go_wp2_with fail
          refine HAP.out.mono ?_
          rintro e w9 ⟨rfl, b9⟩
          go_wp2
          go_ret
          exact ⟨rfl, b9⟩
end Go.Proofs.YtahkpcbemnfllaaDoor.Gen
