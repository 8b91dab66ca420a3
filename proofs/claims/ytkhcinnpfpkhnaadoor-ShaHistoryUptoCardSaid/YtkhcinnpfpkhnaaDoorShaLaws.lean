/- ShaSum, ShaCut, ShaBegins, ShaParts: their walks. -/
import Derived.Test.YtkhcinnpfpkhnaaDoorShaDig
set_option linter.unusedVariables false
set_option linter.unusedSimpArgs false
namespace Go.Proofs.YtkhcinnpfpkhnaaDoor.ShaLaws
open Go.RowKit Go.Proofs.YtkhcinnpfpkhnaaDoor.Base Go.Proofs.YtkhcinnpfpkhnaaDoor.ShaPlain Go.Proofs.YtkhcinnpfpkhnaaDoor.Mem Go.Proofs.YtkhcinnpfpkhnaaDoor.ShaTake Go.Proofs.YtkhcinnpfpkhnaaDoor.ShaNew Go.Proofs.YtkhcinnpfpkhnaaDoor.ShaDig Go.Proofs.YtkhcinnpfpkhnaaDoor.ShaSum Go.Proofs.YtkhcinnpfpkhnaaDoor.ShaKit Go.Proofs.YtkhcinnpfpkhnaaDoor.ShaWrite

abbrev Ints (l : List Nat) (i : Nat) : Int := (l.map fun x : Nat => (x : Int)).getD i 0
theorem both {w : World} (h1 : ∀ i : Nat, i < 8 → w.cell? ⟨0, i, none⟩ = some (.int .u32 (Ints I0.list i))) (h2 : ∀ i : Nat, i < 64 → w.cell? ⟨2, i, none⟩ = some (.int .u32 (Ints K0 i)))
    (h3 : ∀ i : Nat, i < 8 → w.cell? ⟨1, i, none⟩ = some (.int .u32 (Ints I0.list i))) (h4 : ∀ i : Nat, i < 64 → w.cell? ⟨3, i, none⟩ = some (.int .u32 (Ints K0 i))) : Tab w ∧ RTab w := ⟨tab_of h3 h4, rtab_of h1 h2⟩
theorem shaSum_walk (s : ByteArray) (w : World) (hs : s.size ≤ 140737488351232) (h1 : ∀ i : Nat, i < 8 → w.cell? ⟨0, i, none⟩ = some (.int .u32 (Ints I0.list i))) (h2 : ∀ i : Nat, i < 64 → w.cell? ⟨2, i, none⟩ = some (.int .u32 (Ints K0 i)))
    (h3 : ∀ i : Nat, i < 8 → w.cell? ⟨1, i, none⟩ = some (.int .u32 (Ints I0.list i))) (h4 : ∀ i : Nat, i < 64 → w.cell? ⟨3, i, none⟩ = some (.int .u32 (Ints K0 i))) :
    Calls Tryd.prog 4 #[.string s] w fun e w' => e = .returned (.bool true) ∧ Below w.heap.size w w' := by
  obtain ⟨hT, hR⟩ := both h1 h2 h3 h4
  clear h1 h2 h3 h4
  have HA := Lib.hid (shaSum_calls s (by omega) w hT)
  have HB : Hid (∀ W, Below w.heap.size w W → Calls Tryd.prog 22 #[.string s] W (Gives (dig s) W)) := Lib.hid fun W h => refSum_calls s (by omega) W (hR.below h)
  generalize dig s = d at *
  clear hT hR
  go_enter Tryd.func4, Tryd.ntmps4
  go_wp2_with fail
  refine HA.out.mono ?_; rintro e w1 ⟨rfl, hb1⟩
  go_wp2_with fail
  refine (HB.out _ hb1).mono ?_; rintro e w2 ⟨rfl, hb2⟩
  go_wp2
  go_ret
  exact ⟨by simp, hb1.trans (hb2.mono hb1.size)⟩
theorem shaCut_walk (s : ByteArray) (k : Int) (w : World) (hs : s.size ≤ 140737488351232) (_ : (Lit.int .i64 k).wf = true) (h1 : ∀ i : Nat, i < 8 → w.cell? ⟨0, i, none⟩ = some (.int .u32 (Ints I0.list i))) (h2 : ∀ i : Nat, i < 64 → w.cell? ⟨2, i, none⟩ = some (.int .u32 (Ints K0 i)))
    (h3 : ∀ i : Nat, i < 8 → w.cell? ⟨1, i, none⟩ = some (.int .u32 (Ints I0.list i))) (h4 : ∀ i : Nat, i < 64 → w.cell? ⟨3, i, none⟩ = some (.int .u32 (Ints K0 i))) :
    Calls Tryd.prog 8 #[.string s, .int .i64 k] w fun e w' => e = .returned (.bool true) ∧ Below w.heap.size w w' := by
  obtain ⟨hT, hR⟩ := both h1 h2 h3 h4
  clear h1 h2 h3 h4
  have HA := Lib.hid (shaCut_calls s (by omega) k w hT)
  have HB : Hid (∀ W, Below w.heap.size w W → Calls Tryd.prog 29 #[.string s, .int .i64 k] W (Gives (cut k s) W)) := Lib.hid fun W h => refCut_calls s (by omega) k W (hR.below h)
  generalize cut k s = d at *
  clear hT hR
  go_enter Tryd.func8, Tryd.ntmps8
  go_wp2_with fail
  refine HA.out.mono ?_; rintro e w1 ⟨rfl, hb1⟩
  go_wp2_with fail
  refine (HB.out _ hb1).mono ?_; rintro e w2 ⟨rfl, hb2⟩
  go_wp2
  go_ret
  exact ⟨by simp, hb1.trans (hb2.mono hb1.size)⟩
end Go.Proofs.YtkhcinnpfpkhnaaDoor.ShaLaws
