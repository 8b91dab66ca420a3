/- mth.Node, and the document's; MthNode: their walks. -/
import Derived.Test.YtcenfedmbicofaaDoorMthTops
import Derived.Test.YtcenfedmbicofaaDoorAddrs
set_option linter.unusedVariables false
set_option linter.unusedSimpArgs false
namespace Go.Proofs.YtcenfedmbicofaaDoor.Mth
open Go.RowKit Go.Proofs.YtcenfedmbicofaaDoor.Base Go.Proofs.YtcenfedmbicofaaDoor.ShaPlain Go.Proofs.YtcenfedmbicofaaDoor.ShaDig Go.Proofs.YtcenfedmbicofaaDoor.TreeHash Go.Proofs.YtcenfedmbicofaaDoor.Strs Go.Proofs.YtcenfedmbicofaaDoor.Mem Go.Proofs.YtcenfedmbicofaaDoor.Addrs

/-- What Node answers: a text and a number. -/
def nodeT (k l i : Int) (n : Nat) (ss : List ByteArray) : ByteArray :=
  if valid l i then (if n < (i.toNat + 1) * 2 ^ l.toNat then ⟨#[]⟩ else root k ((ss.take ((i.toNat + 1) * 2 ^ l.toNat)).drop (i.toNat * 2 ^ l.toNat))) else ⟨#[]⟩
def nodeC (l i : Int) (n : Nat) : Int := if valid l i then (if n < (i.toNat + 1) * 2 ^ l.toNat then 80 else 0) else 50
def Two (t : ByteArray) (r : Int) (w : World) (e : Ending) (w' : World) : Prop := e = .returned (.tuple #[.string t, .int .i64 r]) ∧ Below w.heap.size w w'
set_option maxHeartbeats 2000000 in
theorem mNode_calls (k l i : Int) (A : Option Addr) (n c : Nat) (ss : List ByteArray) (w : World) (hs : Strs w A n ss) (hc : n ≤ c) (hn : n ≤ 8796093022207) (ha : All ss) (hT : Tab w) :
    Calls Tryd.prog 31 #[.int .i64 k, .agg #[.int .i64 l, .int .i64 i], .slice A n c] w (Two (nodeT k l i n ss) (nodeC l i n) w) := by
  have hl := hs.len
  by_cases hv : valid l i = true
  · obtain ⟨p, j, rfl, rfl, hp, hj⟩ := (valid_iff l i).1 hv
    have hpos := Nat.two_pow_pos p
    have hT1 : nodeT k (p : Int) (j : Int) n ss = if n < (j + 1) * 2 ^ p then ⟨#[]⟩ else root k ((ss.take ((j + 1) * 2 ^ p)).drop (j * 2 ^ p)) := by rw [nodeT, if_pos hv, Int.toNat_natCast, Int.toNat_natCast]
    have hC1 : nodeC (p : Int) (j : Int) n = if n < (j + 1) * 2 ^ p then 80 else 0 := by rw [nodeC, if_pos hv, Int.toNat_natCast, Int.toNat_natCast]
    rw [hT1, hC1]
    have HRW := Lib.hid (Row.new w #[.int .i64 (p : Int), .int .i64 (j : Int)] 40)
    obtain ⟨lo, hlo⟩ : ∃ lo : Nat, j * 2 ^ p = lo := ⟨_, rfl⟩
    obtain ⟨hi, hhi⟩ : ∃ hi : Nat, (j + 1) * 2 ^ p = hi := ⟨_, rfl⟩
    have hlh : lo + 2 ^ p = hi := by rw [← hlo, ← hhi, Nat.add_mul, Nat.one_mul]
    have HSP : Hid (∀ W, Calls Tryd.prog 33 #[.agg #[.int .i64 (p : Int), .int .i64 (j : Int)]] W (SpanYes lo hi W)) := Lib.hid fun W => by rw [← hlo, ← hhi]; exact mSpan_yes p j W hp hj
    rw [hlo, hhi]
    clear hlo hhi hT1 hC1 hv
    by_cases hh : n < hi
    · rw [if_pos hh, if_pos hh]
      clear hs ha hT hl
      go_enter Tryd.func31, Tryd.ntmps31
      go_wp2_with fail
      refine (HSP.out _).mono ?_; rintro e w1 ⟨rfl, C1⟩
      have B1 := ((Below.refl w.heap.size w).alloc (Nat.le_refl _) (.cells #[.int .i64 (p : Int), .int .i64 (j : Int)] 40)).trans (C1.mono (by simp))
      clear C1
      go_wp2
      go_ret2
      exact ⟨rfl, B1⟩
    · rw [if_neg hh, if_neg hh]
      have hcut := fun W => run_cut_lhm W A n c lo hi hi (by omega) (Nat.le_refl _) (by omega)
      have HR : Hid (∀ W, Below w.heap.size w W → Calls Tryd.prog 24 #[.int .i64 k, .slice (cutA A lo hi) (hi - lo) (hi - lo)] W (Gives (root k ((ss.take hi).drop lo)) W)) :=
        Lib.hid fun W hb => mroot_calls k (hi - lo) (cutA A lo hi) (hi - lo) (hi - lo) _ W (Nat.le_refl _) ((hs.below hb).cut lo hi hi (by omega) (by omega) (by omega)) (by omega) (by omega) ((ha.take _).drop _) (hT.below hb)
      generalize root k ((ss.take hi).drop lo) = r at *
      clear hs ha hT hl
      go_enter Tryd.func31, Tryd.ntmps31
      go_wp2_with fail
      refine (HSP.out _).mono ?_; rintro e w1 ⟨rfl, C1⟩
      have B1 := ((Below.refl w.heap.size w).alloc (Nat.le_refl _) (.cells #[.int .i64 (p : Int), .int .i64 (j : Int)] 40)).trans (C1.mono (by simp))
      have q1 := B1.size
      clear C1
      go_wp2_with fail
      refine (HR.out _ B1).mono ?_; rintro e w2 ⟨rfl, C2⟩
      have B2 := B1.trans (C2.mono q1)
      clear C2 B1
      go_wp2
      go_ret2
      exact ⟨rfl, B2⟩
  · have hv' : valid l i = false := by simpa using hv
    have HSP := Lib.hid (fun W => mSpan_no l i W hv')
    have HT1 : Hid (nodeT k l i n ss = ⟨#[]⟩) := Lib.hid (by rw [nodeT, if_neg hv])
    have HC1 : Hid (nodeC l i n = 50) := Lib.hid (by rw [nodeC, if_neg hv])
    have HRW := Lib.hid (Row.new w #[.int .i64 l, .int .i64 i] 40)
    clear hv hv' hs ha hT hl
    go_enter Tryd.func31, Tryd.ntmps31
    go_wp2_with fail
    refine (HSP.out _).mono ?_; rintro e w1 ⟨rfl, C1⟩
    have B1 := ((Below.refl w.heap.size w).alloc (Nat.le_refl _) (.cells #[.int .i64 l, .int .i64 i] 40)).trans (C1.mono (by simp))
    clear C1
    go_wp2
    go_ret2
    exact ⟨by rw [HT1.out, HC1.out]; rfl, B1⟩
set_option maxHeartbeats 2000000 in
theorem rNode_calls (k l i : Int) (A : Option Addr) (n c : Nat) (ss : List ByteArray) (w : World) (hs : Strs w A n ss) (hc : n ≤ c) (hn : n ≤ 8796093022207) (ha : All ss) (hT : RTab w) :
    Calls Tryd.prog 32 #[.int .i64 k, .agg #[.int .i64 l, .int .i64 i], .slice A n c] w (Two (nodeT k l i n ss) (nodeC l i n) w) := by
  have hl := hs.len
  have HVV := Lib.hid (fun W => rValid_calls l i W)
  by_cases hv : valid l i = true
  · obtain ⟨p, j, rfl, rfl, hp, hj⟩ := (valid_iff l i).1 hv
    have hpos := Nat.two_pow_pos p
    have hT1 : nodeT k (p : Int) (j : Int) n ss = if n < (j + 1) * 2 ^ p then ⟨#[]⟩ else root k ((ss.take ((j + 1) * 2 ^ p)).drop (j * 2 ^ p)) := by rw [nodeT, if_pos hv, Int.toNat_natCast, Int.toNat_natCast]
    have hC1 : nodeC (p : Int) (j : Int) n = if n < (j + 1) * 2 ^ p then 80 else 0 := by rw [nodeC, if_pos hv, Int.toNat_natCast, Int.toNat_natCast]
    rw [hT1, hC1]
    have HRW := Lib.hid (Row.new w #[.int .i64 (p : Int), .int .i64 (j : Int)] 40)
    obtain ⟨lo, hlo⟩ : ∃ lo : Nat, j * 2 ^ p = lo := ⟨_, rfl⟩
    obtain ⟨hi, hhi⟩ : ∃ hi : Nat, (j + 1) * 2 ^ p = hi := ⟨_, rfl⟩
    have hlh : lo + 2 ^ p = hi := by rw [← hlo, ← hhi, Nat.add_mul, Nat.one_mul]
    have HSP : Hid (∀ W, Calls Tryd.prog 55 #[.agg #[.int .i64 (p : Int), .int .i64 (j : Int)]] W (SpanYes lo hi W)) := Lib.hid fun W => by rw [← hlo, ← hhi]; exact rSpan_yes p j W hp hj
    rw [hlo, hhi]
    rw [hv] at HVV
    clear hlo hhi hT1 hC1 hv
    by_cases hh : n < hi
    · rw [if_pos hh, if_pos hh]
      clear hs ha hT hl
      go_enter Tryd.func32, Tryd.ntmps32
      go_wp2_with fail
      refine (HVV.out _).mono ?_; rintro e w0 ⟨rfl, C0⟩
      have B0 := ((Below.refl w.heap.size w).alloc (Nat.le_refl _) (.cells #[.int .i64 (p : Int), .int .i64 (j : Int)] 40)).trans (C0.mono (by simp))
      have r0 := HRW.out.below C0 (by simp)
      have ca := r0.cell 0
      have cb := r0.cell 1
      simp at ca cb
      clear C0
      go_wp2_with fail
      refine (HSP.out _).mono ?_; rintro e w1 ⟨rfl, C1⟩
      have B1 := B0.trans (C1.mono (by exact B0.size))
      clear C1
      go_wp2
      go_ret2
      exact ⟨rfl, B1⟩
    · rw [if_neg hh, if_neg hh]
      have hcut := fun W => run_cut_lh W A n c lo hi (by omega) (by omega)
      have HR : Hid (∀ W, Below w.heap.size w W → Calls Tryd.prog 25 #[.int .i64 k, .slice (cutA A lo c) (hi - lo) (c - lo)] W (Gives (root k ((ss.take hi).drop lo)) W)) :=
        Lib.hid fun W hb => rroot_calls k (hi - lo) (cutA A lo c) (hi - lo) (c - lo) _ W (Nat.le_refl _) ((hs.below hb).cut lo hi c (by omega) (by omega) (by omega)) (by omega) (by omega) ((ha.take _).drop _) (hT.below hb)
      generalize root k ((ss.take hi).drop lo) = r at *
      clear hs ha hT hl
      go_enter Tryd.func32, Tryd.ntmps32
      go_wp2_with fail
      refine (HVV.out _).mono ?_; rintro e w0 ⟨rfl, C0⟩
      have B0 := ((Below.refl w.heap.size w).alloc (Nat.le_refl _) (.cells #[.int .i64 (p : Int), .int .i64 (j : Int)] 40)).trans (C0.mono (by simp))
      have r0 := HRW.out.below C0 (by simp)
      have ca := r0.cell 0
      have cb := r0.cell 1
      simp at ca cb
      clear C0
      go_wp2_with fail
      refine (HSP.out _).mono ?_; rintro e w1 ⟨rfl, C1⟩
      have B1 := B0.trans (C1.mono (by exact B0.size))
      have q1 := B1.size
      clear C1
      go_wp2_with fail
      refine (HR.out _ B1).mono ?_; rintro e w2 ⟨rfl, C2⟩
      have B2 := B1.trans (C2.mono q1)
      clear C2 B1
      go_wp2
      go_ret2
      exact ⟨rfl, B2⟩
  · have hv' : valid l i = false := by simpa using hv
    have HSP := Lib.hid (fun W => rSpan_no l i W hv')
    have HT1 : Hid (nodeT k l i n ss = ⟨#[]⟩) := Lib.hid (by rw [nodeT, if_neg hv])
    have HC1 : Hid (nodeC l i n = 50) := Lib.hid (by rw [nodeC, if_neg hv])
    have HRW := Lib.hid (Row.new w #[.int .i64 l, .int .i64 i] 40)
    rw [hv'] at HVV
    clear hv hv' hs ha hT hl
    go_enter Tryd.func32, Tryd.ntmps32
    go_wp2_with fail
    refine (HVV.out _).mono ?_; rintro e w0 ⟨rfl, C0⟩
    have B0 := ((Below.refl w.heap.size w).alloc (Nat.le_refl _) (.cells #[.int .i64 l, .int .i64 i] 40)).trans (C0.mono (by simp))
    have r0 := HRW.out.below C0 (by simp)
    have ca := r0.cell 0
    have cb := r0.cell 1
    simp at ca cb
    clear C0
    have B1 := B0
    go_wp2
    go_ret2
    exact ⟨by rw [HT1.out, HC1.out]; rfl, B1⟩
set_option maxHeartbeats 2000000 in
theorem mthNode_in (k l i : Int) (A : Option Addr) (n c : Nat) (ss : List ByteArray) (w : World) (hC : Came w A n c ss) (hT : Tab w) (hR : RTab w) :
    Calls Tryd.prog 8 #[.int .i64 k, .agg #[.int .i64 l, .int .i64 i], .slice A n c] w (AllTrue w) := by
  have HTW : Hid (∀ W, Below w.heap.size w W → Calls Tryd.prog 23 #[.slice A n c] W (Twin ss W)) := Lib.hid fun W hb => twin_calls A n c ss W ⟨hC.1.below hb, hC.2⟩
  obtain ⟨hS, hnc, hcb, hsz⟩ := hC
  have HL := Lib.hid hS.len
  have HM : Hid (∀ (B : Option Addr) (d : Nat) (W : World), n ≤ d → Below w.heap.size w W → Strs W B n ss → Calls Tryd.prog 31 #[.int .i64 k, .agg #[.int .i64 l, .int .i64 i], .slice B n d] W (Two (nodeT k l i n ss) (nodeC l i n) W)) :=
    Lib.hid fun B d W hd hb hs => mNode_calls k l i B n d ss W hs hd (by omega) hsz (hT.below hb)
  have HRR : Hid (∀ (W : World), Below w.heap.size w W → Calls Tryd.prog 32 #[.int .i64 k, .agg #[.int .i64 l, .int .i64 i], .slice A n c] W (Two (nodeT k l i n ss) (nodeC l i n) W)) :=
    Lib.hid fun W hb => rNode_calls k l i A n c ss W (hS.below hb) hnc (by omega) hsz (hR.below hb)
  have HS := Lib.hid hS
  generalize nodeT k l i n ss = t at *
  generalize nodeC l i n = code at *
  have HRW := Lib.hid (Row.new w #[.int .i64 l, .int .i64 i] 40)
  have B0 := (Below.refl w.heap.size w).alloc (Nat.le_refl _) (.cells #[.int .i64 l, .int .i64 i] 40)
  clear hT hR hsz hS
  have HB0 := Lib.hid B0
  clear B0
  go_enter Tryd.func8, Tryd.ntmps8
  go_wp2_with fail
  refine (HTW.out _ HB0.out).mono ?_; rintro e w1 ⟨g, d, rfl, hd, hg, ho, C1⟩
  rw [HL.out] at hd ho ⊢
  have B1 := HB0.out.trans (C1.mono (by simp))
  have r1 := HRW.out.below C1 (by simp)
  have hz1 := B1.size
  have T1 := own_strs ho (len_snoc ss mark HL.out)
  have T2 := T1.take n (by omega)
  rw [List.take_left' HL.out] at T2
  have ca := r1.cell 0
  have cb := r1.cell 1
  simp at ca cb
  have R1 := Lib.hid r1
  clear ho C1 r1
  go_wp2_with fail
  refine (HM.out _ d w1 (by omega) B1 T2).mono ?_; rintro e w2 ⟨rfl, C2⟩
  have T3 := T1.below C2
  have B2 := B1.trans (C2.mono hz1)
  have hz2 := B2.size
  have r2 := R1.out.below C2 R1.out.lt
  have cc := r2.cell 0
  have cd := r2.cell 1
  simp at cc cd
  clear T1 T2 C2 B1 r2 ca cb
  go_wp2_with fail
  refine (HRR.out w2 B2).mono ?_; rintro e w3 ⟨rfl, C3⟩
  have T4 := T3.below C3
  have B3 := B2.trans (C3.mono hz2)
  have hz3 := B3.size
  clear T3 C3 B2 cc cd
  go_wp2_with fail
  refine (kept_calls A g n d c ss w3 T4 (HS.out.below B3) (by omega) (by omega)).mono ?_; rintro e w4 ⟨rfl, C4⟩
  have B4 := B3.trans (C4.mono hz3)
  clear T4 C4 B3
  go_wp2
  go_ret
  exact ⟨by simp, B4⟩
theorem mthNode_walk (k l i : Int) (A : Option Addr) (n c : Nat) (ss : List ByteArray) (w : World) (_ : (Lit.int .i64 k).wf = true) (_ : (Lit.int .i64 l).wf = true) (_ : (Lit.int .i64 i).wf = true) (hC : Came w A n c ss) (h1 : ∀ i : Nat, i < 8 → w.cell? ⟨0, i, none⟩ = some (.int .u32 (Ints I0.list i))) (h2 : ∀ i : Nat, i < 64 → w.cell? ⟨1, i, none⟩ = some (.int .u32 (Ints K0 i)))
    (h3 : ∀ i : Nat, i < 8 → w.cell? ⟨2, i, none⟩ = some (.int .u32 (Ints I0.list i))) (h4 : ∀ i : Nat, i < 64 → w.cell? ⟨3, i, none⟩ = some (.int .u32 (Ints K0 i))) :
    Calls Tryd.prog 8 #[.int .i64 k, .agg #[.int .i64 l, .int .i64 i], .slice A n c] w fun e w' => e = .returned (.bool true) ∧ Below w.heap.size w w' := by
  obtain ⟨hT, hR⟩ := both h1 h2 h3 h4
  exact mthNode_in k l i A n c ss w hC hT hR
end Go.Proofs.YtcenfedmbicofaaDoor.Mth
