/- MthRoot: its walk. -/
import Derived.Test.YtcenfedmbicofaaDoorMthTwin
set_option linter.unusedVariables false
set_option linter.unusedSimpArgs false
namespace Go.Proofs.YtcenfedmbicofaaDoor.Mth
open Go.RowKit Go.Proofs.YtcenfedmbicofaaDoor.Base Go.Proofs.YtcenfedmbicofaaDoor.ShaPlain Go.Proofs.YtcenfedmbicofaaDoor.ShaDig Go.Proofs.YtcenfedmbicofaaDoor.TreeHash Go.Proofs.YtcenfedmbicofaaDoor.Strs Go.Proofs.YtcenfedmbicofaaDoor.Mem

theorem both {w : World} (h1 : ∀ i : Nat, i < 8 → w.cell? ⟨0, i, none⟩ = some (.int .u32 (Ints I0.list i))) (h2 : ∀ i : Nat, i < 64 → w.cell? ⟨1, i, none⟩ = some (.int .u32 (Ints K0 i)))
    (h3 : ∀ i : Nat, i < 8 → w.cell? ⟨2, i, none⟩ = some (.int .u32 (Ints I0.list i))) (h4 : ∀ i : Nat, i < 64 → w.cell? ⟨3, i, none⟩ = some (.int .u32 (Ints K0 i))) : Tab w ∧ RTab w := ⟨tab_of h3 h4, rtab_of h1 h2⟩
def AllTrue (w : World) (e : Ending) (w' : World) : Prop := e = .returned (.bool true) ∧ Below w.heap.size w w'
set_option maxHeartbeats 1000000 in
theorem mthRoot_in (k : Int) (A : Option Addr) (n c : Nat) (ss : List ByteArray) (w : World) (hC : Came w A n c ss) (hT : Tab w) (hR : RTab w) :
    Calls Tryd.prog 5 #[.int .i64 k, .slice A n c] w (AllTrue w) := by
  have HTW := Lib.hid (twin_calls A n c ss w hC)
  obtain ⟨hS, hnc, hcb, hsz⟩ := hC
  replace hsz := All.of hsz
  have HL := Lib.hid hS.len
  have HM : Hid (∀ (B : Option Addr) (d : Nat) (W : World), n ≤ d → Below w.heap.size w W → Strs W B n ss → Calls Tryd.prog 24 #[.int .i64 k, .slice B n d] W (Gives (root k ss) W)) :=
    Lib.hid fun B d W hd hb hs => mroot_calls k n B n d ss W (Nat.le_refl _) hs hd (by omega) hsz (hT.below hb)
  have HRR : Hid (∀ (W : World), Below w.heap.size w W → Calls Tryd.prog 25 #[.int .i64 k, .slice A n c] W (Gives (root k ss) W)) :=
    Lib.hid fun W hb => rroot_calls k n A n c ss W (Nat.le_refl _) (hS.below hb) hnc (by omega) hsz (hR.below hb)
  have HS := Lib.hid hS
  generalize root k ss = r at *
  clear hT hR hsz hS
  go_enter Tryd.func5, Tryd.ntmps5
  go_wp2_with fail
  refine HTW.out.mono ?_; rintro e w1 ⟨g, d, rfl, hd, hg, ho, B1⟩
  rw [HL.out] at hd ho ⊢
  have hz1 := B1.size
  have T1 := own_strs ho (len_snoc ss mark HL.out)
  have T2 := T1.take n (by omega)
  rw [List.take_left' HL.out] at T2
  clear ho
  go_wp2_with fail
  refine (HM.out _ d w1 (by omega) B1 T2).mono ?_; rintro e w2 ⟨rfl, C2⟩
  have T3 := T1.below C2
  have B2 := B1.trans (C2.mono hz1)
  have hz2 := B2.size
  clear T1 T2 C2 B1
  go_wp2_with fail
  refine (HRR.out w2 B2).mono ?_; rintro e w3 ⟨rfl, C3⟩
  have T4 := T3.below C3
  have B3 := B2.trans (C3.mono hz2)
  have hz3 := B3.size
  clear T3 C3 B2
  go_wp2_with fail
  refine (kept_calls A g n d c ss w3 T4 (HS.out.below B3) (by omega) (by omega)).mono ?_; rintro e w4 ⟨rfl, C4⟩
  have B4 := B3.trans (C4.mono hz3)
  clear T4 C4 B3
  go_wp2
  go_ret
  exact ⟨by simp, B4⟩
theorem mthRoot_walk (k : Int) (A : Option Addr) (n c : Nat) (ss : List ByteArray) (w : World) (_ : (Lit.int .i64 k).wf = true) (hC : Came w A n c ss) (h1 : ∀ i : Nat, i < 8 → w.cell? ⟨0, i, none⟩ = some (.int .u32 (Ints I0.list i))) (h2 : ∀ i : Nat, i < 64 → w.cell? ⟨1, i, none⟩ = some (.int .u32 (Ints K0 i)))
    (h3 : ∀ i : Nat, i < 8 → w.cell? ⟨2, i, none⟩ = some (.int .u32 (Ints I0.list i))) (h4 : ∀ i : Nat, i < 64 → w.cell? ⟨3, i, none⟩ = some (.int .u32 (Ints K0 i))) :
    Calls Tryd.prog 5 #[.int .i64 k, .slice A n c] w fun e w' => e = .returned (.bool true) ∧ Below w.heap.size w w' := by
  obtain ⟨hT, hR⟩ := both h1 h2 h3 h4
  exact mthRoot_in k A n c ss w hC hT hR
end Go.Proofs.YtcenfedmbicofaaDoor.Mth
