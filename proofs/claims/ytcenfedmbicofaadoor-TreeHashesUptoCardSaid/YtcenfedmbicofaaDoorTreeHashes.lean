/- TreeHashes: its walk. -/
import Derived.Test.YtcenfedmbicofaaDoorTreeHash
set_option linter.unusedVariables false
set_option linter.unusedSimpArgs false
namespace Go.Proofs.YtcenfedmbicofaaDoor.TreeHash
open Go.RowKit Go.Proofs.YtcenfedmbicofaaDoor.Base Go.Proofs.YtcenfedmbicofaaDoor.ShaPlain Go.Proofs.YtcenfedmbicofaaDoor.Mem Go.Proofs.YtcenfedmbicofaaDoor.ShaDig

theorem chainT {w W W' : World} (B : Below w.heap.size w W) (C : Below W.heap.size W W') : Below w.heap.size w W' := B.trans (C.mono B.size)
theorem treeHashes_walk (k : Int) (d l r : ByteArray) (w : World) (_ : (Lit.int .i64 k).wf = true) (_ : d.size ≤ 140737488351232) (_ : l.size ≤ 140737488351232) (_ : r.size ≤ 140737488351232) (u1 : d.size ≤ 1048576) (u2 : l.size ≤ 1048576) (u3 : r.size ≤ 1048576)
    (h1 : ∀ i : Nat, i < 8 → w.cell? ⟨0, i, none⟩ = some (.int .u32 ((I0.list.map fun x : Nat => (x : Int)).getD i 0))) (h2 : ∀ i : Nat, i < 64 → w.cell? ⟨1, i, none⟩ = some (.int .u32 ((K0.map fun x : Nat => (x : Int)).getD i 0)))
    (h3 : ∀ i : Nat, i < 8 → w.cell? ⟨2, i, none⟩ = some (.int .u32 ((I0.list.map fun x : Nat => (x : Int)).getD i 0))) (h4 : ∀ i : Nat, i < 64 → w.cell? ⟨3, i, none⟩ = some (.int .u32 ((K0.map fun x : Nat => (x : Int)).getD i 0))) :
    Calls Tryd.prog 3 #[.int .i64 k, .string d, .string l, .string r] w fun e w' => e = .returned (.bool true) ∧ Below w.heap.size w w' := by
  have hT := tab_of h3 h4
  have hR := rtab_of h1 h2
  clear h1 h2 h3 h4
  have HE := Lib.hid (fun W (b : Below w.heap.size w W) => empty_calls k W (hT.below b))
  have RE := Lib.hid (fun W (b : Below w.heap.size w W) => refEmpty_calls k W (hR.below b))
  have HL := Lib.hid (fun W (b : Below w.heap.size w W) => leaf_calls k d (by omega) W (hT.below b))
  have RL := Lib.hid (fun W (b : Below w.heap.size w W) => refLeaf_calls k d (by omega) W (hR.below b))
  have HN := Lib.hid (fun W (b : Below w.heap.size w W) => node_calls k l r (by omega) W (hT.below b))
  have RN := Lib.hid (fun W (b : Below w.heap.size w W) => refNode_calls k l r (by omega) W (hR.below b))
  clear hT hR
  generalize hE : emptyH k = E at *
  generalize hLl : leafH k d = L at *
  generalize hNn : nodeH k l r = N at *
  clear hE hLl hNn
  go_enter Tryd.func3, Tryd.ntmps3
  go_wp2_with fail
  refine (HE.out _ (Below.refl _ _)).mono ?_; rintro e w1 ⟨rfl, b1⟩
  go_wp2_with fail
  refine (RE.out _ b1).mono ?_; rintro e w2 ⟨rfl, c2⟩
  have b2 := chainT b1 c2
  go_wp2_with fail
  refine (HL.out _ b2).mono ?_; rintro e w3 ⟨rfl, c3⟩
  have b3 := chainT b2 c3
  go_wp2_with fail
  refine (RL.out _ b3).mono ?_; rintro e w4 ⟨rfl, c4⟩
  have b4 := chainT b3 c4
  go_wp2_with fail
  refine (HN.out _ b4).mono ?_; rintro e w5 ⟨rfl, c5⟩
  have b5 := chainT b4 c5
  go_wp2_with fail
  refine (RN.out _ b5).mono ?_; rintro e w6 ⟨rfl, c6⟩
  have b6 := chainT b5 c6
  go_wp2
  go_ret
  exact ⟨by simp, b6⟩
end Go.Proofs.YtcenfedmbicofaaDoor.TreeHash
