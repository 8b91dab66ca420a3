/- (*sha.Hash).Reset: its walk. -/
import Derived.Test.YtkhcinnpfpkhnaaDoorShaDig
set_option linter.unusedVariables false
set_option linter.unusedSimpArgs false
namespace Go.Proofs.YtkhcinnpfpkhnaaDoor.ShaReset
open Go.RowKit Go.Proofs.YtkhcinnpfpkhnaaDoor.Base Go.Proofs.YtkhcinnpfpkhnaaDoor.ShaPlain Go.Proofs.YtkhcinnpfpkhnaaDoor.ShaRot Go.Proofs.YtkhcinnpfpkhnaaDoor.Arr Go.Proofs.YtkhcinnpfpkhnaaDoor.Mem Go.Proofs.YtkhcinnpfpkhnaaDoor.Buf Go.Proofs.YtkhcinnpfpkhnaaDoor.ShaTake Go.Proofs.YtkhcinnpfpkhnaaDoor.ShaBlocks Go.Proofs.YtkhcinnpfpkhnaaDoor.ShaKit Go.Proofs.YtkhcinnpfpkhnaaDoor.ShaWrite Go.Proofs.YtkhcinnpfpkhnaaDoor.ShaPut Go.Proofs.YtkhcinnpfpkhnaaDoor.ShaNew
theorem wpList_build1 {P : Program} {w : World} {ops : Array Oper} {rest : List Oper} {o : Oper} {a : Act} {Q : Exit → Act → World → Prop} (hgd : o.guard = none) (ty : TypeId) (i : Nat) (x : Operand) (ho : o.op = .build ty #[(i, x)]) (y v : Value) (hx : a.eval x = y)
    (hrun : (Instr.build ty #[(i, y)]).run P w = .ok v w) (h : wpList P ops Q rest (a.put o.dst v) w) : wpList P ops Q (o :: rest) a w :=
  wpList_plain hgd fun K hK => by
    unfold Oper.wp execOp
    simp only [ho, List.map_toArray, List.map_cons, List.map_nil, hx, Sem.run_bind, hrun, Result.andThen_ok]
    exact hK _ _ h
set_option maxHeartbeats 1000000 in
set_option maxRecDepth 1000000 in
theorem reset_calls (K : List Nat) (s0 : St) (w : World) (hB : Begin s0 w) (b : Nat) (t : List Nat) (hH : Hash K s0 w b t) :
    Calls Tryd.prog 26 #[.pointer (some ⟨b, 0, none⟩)] w (fun e w' => e = .returned (.tuple #[]) ∧ Grew w w' (some b) ∧ Hash K s0 w' b []) := by
  obtain ⟨s1, r1, hrow, hr1, _⟩ := hash_row hH
  obtain ⟨hz8, hi8⟩ := zero_of_info info8
  obtain ⟨hzH, hiH⟩ := zero_of_info infoH
  have HLO : Hid (∀ (j : Nat) v, (arr8 s0)[j]? = some v → w.cell? ⟨1, 0 + j, none⟩ = some v) := Lib.hid fun j v hv => by
    have hj : j < 8 := by
      by_cases hj : j < 8
      · exact hj
      · rw [Array.getElem?_eq_none (by show 8 ≤ j; omega)] at hv; exact absurd hv (by simp)
    rw [arr8_get j s0 hj] at hv
    rw [Nat.zero_add, hB j hj, hv]
  have HI8 := Lib.hid hi8
  have HIH := Lib.hid hiH
  have HROW := Lib.hid hrow
  have HSZ := Lib.hid (hcells_size s1 r1 (t.length : Int) hr1)
  have hre := hash_new K s0
  have hbd : ∀ w, (Instr.build 67 #[(0, .agg (arr8 s0))]).run Tryd.prog w = .ok (.agg (hcells s0 zr 0)) w := fun w => by kernel_rfl
  have HOZ := Lib.hid (hcells_size s0 zr 0 rfl)
  have HONE := Lib.hid (hcells_one s0 zr 0)
  have HRE := Lib.hid hre
  have HG := Lib.hid ((Grew.refl w (some b)).put b (.inr rfl) (hcells s0 zr 0))
  have HP := Lib.hid (HROW.out.put (hcells s0 zr 0))
  generalize hcells s0 zr 0 = C at *
  clear hi8 hiH hz8 hB hH hrow hre hzH
  go_enter Tryd.func26, Tryd.ntmps26
  go_wp2_with (first
    | (refine wpList_load_seg rfl 64 _ rfl 1 0 rfl (arr8 s0) _ HLO.out Tryd.underlying64 rfl HI8.out ?_)
    | (refine wpList_build1 rfl 67 0 _ rfl (.agg (arr8 s0)) (.agg C) rfl (hbd _) ?_)
    | (refine wpList_put_row rfl 67 _ _ rfl b rfl C rfl 67 _ HROW.out (by rw [HOZ.out]; exact HIH.out) (by rw [HSZ.out, HOZ.out]) HONE.out ?_))
  go_end0
  exact ⟨rfl, HG.out, HRE.out _ _ HP.out⟩
end Go.Proofs.YtkhcinnpfpkhnaaDoor.ShaReset
