/- tree.pieces: its walk, over whatever body. -/
import Derived.Test.YtahkpcbemnfllaaDoorCovP
import Derived.Test.YtahkpcbemnfllaaDoorLst
import Derived.RangeFuncBox
import Derived.RangeFuncNested
import Derived.RangeFuncBound
import Derived.RangeFuncCalls
import Derived.RangeFuncLeaves
import Derived.Shelf.Abstract
import Derived.Shelf.RegionOpen
import Derived.WalkKit
import Derived.OwnWalkIn
import Derived.TacticsInMore
import Derived.LoopNIn
import Derived.LoopIn
import Derived.Maps.AppendAt
import Derived.Sort.BigQuietIn
import Derived.IntWalk
import Derived.Lib.Hide
import Derived.Outline
set_option linter.unusedVariables false
set_option linter.unusedSimpArgs false
namespace Go.Proofs.YtahkpcbemnfllaaDoor.Pieces
open Go.RowKit Go.Shelf Go.Proofs.YtahkpcbemnfllaaDoor.Base Go.Proofs.YtahkpcbemnfllaaDoor.Nums Go.Proofs.YtahkpcbemnfllaaDoor.Cov Go.Proofs.YtahkpcbemnfllaaDoor.Mem Go.Proofs.YtahkpcbemnfllaaDoor.Lst
attribute [local go_sem] Oper.semAt_some

theorem zeros_z (p : Nat) (hp : p < 9223372036854775808) (w : World) : Calls Tryd.prog 49 #[.int .i64 (p : Int)] w fun e w' => e = .returned (.int .i64 (zs p : Int)) ∧ w' = w := by
  by_cases h : p = 0
  · subst h
    exact (zeros_neg _ w (by omega)).mono fun _ _ h => ⟨by rw [h.1]; rfl, h.2.symm⟩
  · refine (zeros_nat p w hp (by omega)).mono fun _ _ h' => ⟨?_, h'.2.symm⟩
    rw [h'.1]; unfold zs; rw [if_neg h]
theorem bits_sub (hi p : Nat) (hp : p ≤ hi) (hh : hi < 9223372036854775808) (w : World) : Calls Tryd.prog 62 #[.int .i64 ((hi : Int) - (p : Int))] w fun e w' => e = .returned (.int .i64 (Nums.nbits (hi - p) : Int)) ∧ w' = w := by
  have e : (hi : Int) - (p : Int) = ((hi - p : Nat) : Int) := by omega
  rw [e]
  exact (Nums.bits_nat (hi - p) w (by omega)).mono fun _ _ h => ⟨h.1, h.2.symm⟩
theorem min_lev {P : Program} (ts : Array TypeId) (t : TypeId) (w : World) (p hi : Nat) :
    (Builtin.min_ ts t #[.int .i64 (zs p : Int), .int .i64 ((Nums.nbits (hi - p) : Int) - 1), .int .i64 62]).run P w = .ok (.int .i64 (if p < hi then (lev p hi : Int) else (min (min (zs p : Int) ((Nums.nbits (hi - p) : Int) - 1)) 62))) w := by
  have hb := Cov.pow_le_nbits (hi - p) 0
  rw [Nat.pow_zero] at hb
  have e : (min (min (zs p : Int) ((Nums.nbits (hi - p) : Int) - 1)) 62) = (if p < hi then (lev p hi : Int) else (min (min (zs p : Int) ((Nums.nbits (hi - p) : Int) - 1)) 62)) := by
    split
    · have := hb.1 (by omega)
      unfold lev; omega
    · rfl
  rw [← e]
  generalize ((Nums.nbits (hi - p) : Nat) : Int) - 1 = B
  generalize ((zs p : Nat) : Int) = Z
  have h1 : min (min Z B) 62 = if 62 < (if B < Z then B else Z) then 62 else (if B < Z then B else Z) := by
    repeat (split) <;> omega
  rw [h1]
  simp [Builtin.min_, Builtin.min2]
set_option maxRecDepth 100000 in
set_option maxHeartbeats 1000000 in
theorem pieces1_in (n : Nat) (hn : 1 ≤ n) (l B1 B2 lo hi : Nat) (hl : lo ≤ hi) (hh : hi ≤ 4611686018427387904) (J Jx : List (Nat × Nat) → World → Prop)
    (hY : ∀ pre x W, J pre W → pre.length < (greedy lo hi).length → YieldAt Fence.wide (n - 1) Tryd.prog l #[av x] W fun e W' =>
      (e = .returned (.bool true) ∧ J (pre ++ [x]) W' ∧ W'.cell? ⟨B2, 0, none⟩ = W.cell? ⟨B2, 0, none⟩) ∨ (e = .returned (.bool false) ∧ Jx (pre ++ [x]) W'))
    (W : World) (hB1 : W.cell? ⟨B1, 0, none⟩ = some (.int .i64 (lo : Int))) (hB2 : W.cell? ⟨B2, 0, none⟩ = some (.int .i64 (hi : Int))) (hJd : ∀ pre W k, J pre W → J pre (W.drewN k)) (h0 : J [] W) :
    CallsIn Fence.wide n Tryd.prog 61 #[.func (.yield l) #[] #[], .pointer (some ⟨B1, 0, none⟩), .pointer (some ⟨B2, 0, none⟩)] W fun e W' => (∃ v, e = .returned v) ∧
      ((∃ ys, ys = greedy lo hi ∧ J ys W') ∨ (∃ pre, pre <+: greedy lo hi ∧ Jx pre W')) := by
  refine callsIn_of_wp Tryd.func61 rfl trivial ?_ rfl
  simp only [Tryd.ntmps61, List.size_toArray, List.length_cons, List.length_nil, Nat.reduceAdd, Nat.reduceSub, Array.replicate_succ, Array.replicate_zero, List.push_toArray, List.append_toArray, List.nil_append, List.cons_append]
  gi_wp2
  gi_loopw [4] (fun p wr => ∃ (pre : List (Nat × Nat)) (q : Nat), p = .int .i64 (q : Int) ∧ q ≤ hi ∧ Hid (greedy lo hi = pre ++ greedy q hi) ∧ wr.cell? ⟨B2, 0, none⟩ = some (.int .i64 (hi : Int)) ∧ Hid (J pre wr))
    (fun p _ => hi - (intOf p).toNat)
  case atStart =>
    exact ⟨[], lo, rfl, hl, Lib.hid (by simp), hB2, Lib.hid h0⟩
  case round =>
    obtain ⟨pre, q, rfl, hq, hx, hc, hJs⟩ := hrel
    by_cases hlt : q < hi
    · have hst := greedy_step hlt
      have hL := lev_next hlt hh
      have hL62 := lev_62 q hi
      have hy0 := fun k => hY pre (lev q hi, q / 2 ^ lev q hi) (wr.drewN k) (hJd _ _ _ hJs.out) (by rw [hx.out, hst]; simp)
      have Hst := Lib.hid hst
      have HL := Lib.hid hL
      have HY := Lib.hid hy0
      clear hst hL hy0 hY
      have hm := fun w => min_lev (P := Tryd.prog) #[3, 3, 3] 3 w q hi
      simp only [hlt, if_true] at hm
      have hs1 : IntKind.i64.wrap ((hi : Int) - (q : Int)) = (hi : Int) - (q : Int) := IntWalk.i64_in _ (by omega)
      have hn1 : Nums.nbits (hi - q) ≤ 63 := nbits_le_of_lt 63 _ (by omega)
      have hs2 : IntKind.i64.wrap ((Nums.nbits (hi - q) : Int) - 1) = (Nums.nbits (hi - q) : Int) - 1 := IntWalk.i64_in _ (by omega)
      gi_wp2
      refine wpIn_region_quiet_lit rfl (by kernel_rfl) (by kernel_rfl) ?_
      repeat (refine BigFrame.wpQuietIn_want (fun _ _ _ _ => trivial) rfl ?_; intro K hK; gi_big_quiet_op; first | go_big_quiet_on | gi_big_quiet_call (first | (gi_at_call 49; exact CallsIn.quiet_of_same (callsIn_wide.2 (zeros_z q (by omega) _))) | (gi_at_call 62; exact CallsIn.quiet_of_same (callsIn_wide.2 (bits_sub hi q (by omega) (by omega) _)))))
      refine wpQuietIn_nil ?_
      intro _ hw'
      obtain ⟨nq, hw''⟩ := hw'
      subst hw''
      obtain ⟨fn, tmps, assign, body, hy, hR⟩ := HY.out nq
      clear hm hs1 hs2 hn1
      have e : ((q / 2 ^ lev q hi : Nat) : Int) = (q : Int) / 2 ^ lev q hi := by rw [Int.natCast_ediv, Int.natCast_pow]; rfl
      dsimp only [av] at hy
      rw [e] at hy
      have hp : ((2 ^ lev q hi : Nat) : Int) = 2 ^ lev q hi := by rw [Int.natCast_pow]; rfl
      have HP := Lib.hid hp
      have HE := Lib.hid e
      clear e hp
      gi_wp2
      refine hR.mono ?_
      clear hR hy
      rintro e W3 (⟨rfl, hJ3, hk3⟩ | ⟨rfl, hJx3⟩)
      · have HJ3 := Lib.hid hJ3
        have hc3 : W3.cell? ⟨B2, 0, none⟩ = some (.int .i64 (hi : Int)) := hk3.trans hc
        clear hJ3
        gi_wp2
        have HW : wrap64 ((q : Int) + wrap64 (2 ^ lev q hi)) = ((q + 2 ^ lev q hi : Nat) : Int) := by
          have h1 := HL.out
          have h3 := lev_pos q hi
          have h2 := HP.out
          rw [← h2, wrap_in (x := ((2 ^ lev q hi : Nat) : Int)) (by omega) (by omega), wrap_in (by omega) (by omega)]
          omega
        have h3 := lev_pos q hi
        rw [HW]
        go_roundw
        case rel =>
          refine ⟨pre ++ [(lev q hi, q / 2 ^ lev q hi)], q + 2 ^ lev q hi, rfl, HL.out, Lib.hid ?_, hc3, HJ3⟩
          rw [hx.out, Hst.out]
          simp
        case measure =>
          have h1 := HL.out
          simp only [intOf]
          omega
      · gi_wp2
        refine bodyPost_ret (results_none rfl _ _ _) rfl ?_
        refine ⟨⟨_, rfl⟩, .inr ⟨pre ++ [(lev q hi, q / 2 ^ lev q hi)], ⟨greedy (q + 2 ^ lev q hi) hi, ?_⟩, hJx3⟩⟩
        rw [hx.out, Hst.out]
        simp
    · gi_wp2
      go_end0
      refine ⟨⟨_, rfl⟩, .inl ⟨pre, ?_, hJs.out⟩⟩
      have := hx.out
      rw [greedy_end hlt, List.append_nil] at this
      exact this.symm
/-- tree.pieces: the two numbers are boxed; the function value captures the boxes. -/
theorem pieces_calls (lo hi : Int) (w : World) :
    Calls Tryd.prog 50 #[.int .i64 lo, .int .i64 hi] w fun e w' => e = .returned (.func (.func 61) #[] #[.pointer (some ⟨w.heap.size, 0, none⟩), .pointer (some ⟨w.heap.size + 1, 0, none⟩)]) ∧ w' = (w.alloc (.cells #[.int .i64 lo] 3)).alloc (.cells #[.int .i64 hi] 3) := by
  go_enter Tryd.func50, Tryd.ntmps50
  go_wp2
  go_ret
  exact ⟨rfl, rfl⟩
theorem pieces_stops (n : Nat) (hn : 1 ≤ n) (B1 B2 lo hi : Nat) (hl : lo ≤ hi) (hh : hi ≤ 4611686018427387904) (w : World) (b1 : B1 < w.heap.size) (b2 : B2 < w.heap.size)
    (hB1 : w.cell? ⟨B1, 0, none⟩ = some (.int .i64 (lo : Int))) (hB2 : w.cell? ⟨B2, 0, none⟩ = some (.int .i64 (hi : Int))) :
    SeqStopsK Fence.wide n Tryd.prog 61 #[.pointer (some ⟨B1, 0, none⟩), .pointer (some ⟨B2, 0, none⟩)] (fun x : Nat × Nat => #[av x]) (fun X Y => Y.cell? ⟨B2, 0, none⟩ = X.cell? ⟨B2, 0, none⟩) (fun ys => ys = greedy lo hi) (fun pre => pre <+: greedy lo hi) (greedy lo hi).length w := fun l J Jx W hW hJ _ hY h0 =>
  pieces1_in n hn l B1 B2 lo hi hl hh J Jx hY W ((hW.cell (p := ⟨B1, 0, none⟩) b1).trans hB1) ((hW.cell (p := ⟨B2, 0, none⟩) b2).trans hB2)
    (fun pre X k h => hJ pre X (X.drewN k) none h ⟨rfl, rfl, rfl, Nat.le_refl _, fun _ _ _ => rfl⟩ (fun r e => by cases e)) h0
end Go.Proofs.YtahkpcbemnfllaaDoor.Pieces
