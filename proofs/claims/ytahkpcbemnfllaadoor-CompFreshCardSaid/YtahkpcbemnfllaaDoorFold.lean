/- tree.Fold and the document's: their walks. -/
import Derived.Test.YtahkpcbemnfllaaDoorTreeHash
import Derived.Test.YtahkpcbemnfllaaDoorStrs2
import Derived.RangeFuncBox
import Derived.RangeFuncNested
import Derived.RangeFuncBound
import Derived.RangeFuncCalls
import Derived.RangeFuncLeaves
import Derived.Shelf.Abstract
import Derived.Shelf.RegionOpen
import Derived.WalkKit
import Derived.OwnWalkIn
import Derived.TacticsInMore
import Derived.LoopNIn
import Derived.LoopIn
import Derived.IntWalk
import Derived.Lib.Hide
import Derived.Outline
import Derived.BigQuiet
import Derived.Deep.QuietTactic
set_option linter.unusedVariables false
set_option linter.unusedSimpArgs false
namespace Go.Proofs.YtahkpcbemnfllaaDoor.Fold
open Go.RowKit Go.Shelf Go.Proofs.YtahkpcbemnfllaaDoor.Base Go.Proofs.YtahkpcbemnfllaaDoor.Mem Go.Proofs.YtahkpcbemnfllaaDoor.Strs Go.Proofs.YtahkpcbemnfllaaDoor.ShaDig Go.Proofs.YtahkpcbemnfllaaDoor.TreeHash
attribute [local go_sem] Oper.semAt_some

/-! ### plain -/
def foldH (k : Int) (ss : List ByteArray) : ByteArray := if ss.length = 0 then emptyH k else (ss.take (ss.length - 1)).foldr (nodeH k) (ss.getD (ss.length - 1) ⟨#[]⟩)
theorem foldH_nil (k : Int) : foldH k [] = emptyH k := rfl
theorem foldH_one (k : Int) (x : ByteArray) : foldH k [x] = x := rfl
theorem foldH_cons (k : Int) (x y : ByteArray) (l : List ByteArray) : foldH k (x :: y :: l) = nodeH k x (foldH k (y :: l)) := by
  unfold foldH
  rw [if_neg (by simp), if_neg (by simp)]
  simp
/-- Elements j from behind have been taken in. -/
def acc (k : Int) (ss : List ByteArray) (j : Nat) : ByteArray := ((ss.take (ss.length - 1)).drop (ss.length - 1 - j)).foldr (nodeH k) (ss.getD (ss.length - 1) ⟨#[]⟩)
theorem acc_zero (k : Int) (ss : List ByteArray) : acc k ss 0 = ss.getD (ss.length - 1) ⟨#[]⟩ := by
  unfold acc
  rw [List.drop_eq_nil_of_le (by rw [List.length_take]; omega)]; rfl
theorem acc_succ (k : Int) (ss : List ByteArray) (j : Nat) (h : j < ss.length - 1) : acc k ss (j + 1) = nodeH k (ss.getD (ss.length - 1 - (j + 1)) ⟨#[]⟩) (acc k ss j) := by
  unfold acc
  rw [List.drop_eq_getElem_cons (i := ss.length - 1 - (j + 1)) (by rw [List.length_take]; omega), List.foldr_cons, show ss.length - 1 - (j + 1) + 1 = ss.length - 1 - j by omega]
  congr 1
  rw [List.getElem_take, List.getD_eq_getElem?_getD, List.getElem?_eq_getElem (by omega)]; rfl
theorem acc_end (k : Int) (ss : List ByteArray) (h : 0 < ss.length) : acc k ss (ss.length - 1) = foldH k ss := by
  unfold acc foldH
  rw [if_neg (by omega), Nat.sub_self, List.drop_zero]
theorem acc_size (k : Int) (ss : List ByteArray) (M : Nat) (hM : 32 ≤ M) (hs : ∀ s ∈ ss, s.size ≤ M) (h0 : 0 < ss.length) (j : Nat) (h : j ≤ ss.length - 1) : (acc k ss j).size ≤ M := by
  cases j with
  | zero =>
    rw [acc_zero, List.getD_eq_getElem?_getD, List.getElem?_eq_getElem (by omega)]
    exact hs _ (List.getElem_mem _)
  | succ j =>
    rw [acc_succ k ss j (by omega), nodeH_size]
    have := wid_le k
    omega
theorem get_size {ss : List ByteArray} {M : Nat} (hs : ∀ s ∈ ss, s.size ≤ M) (i : Nat) : (ss.getD i ⟨#[]⟩).size ≤ M := by
  rw [List.getD_eq_getElem?_getD]
  by_cases h : i < ss.length
  · rw [List.getElem?_eq_getElem h]; exact hs _ (List.getElem_mem h)
  · rw [List.getElem?_eq_none (by omega)]; exact Nat.zero_le _

/-! ### slices.Backward -/
def Fit (ss : List ByteArray) : Prop := ∀ s ∈ ss, s.size ≤ 140737488351300
abbrev Txt := { x : Nat × ByteArray // x.2.size ≤ 140737488351300 }
abbrev sv2 (x : Txt) : Array Value := #[.int .i64 (x.1.1 : Int), .string x.1.2]
def bk (ss : List ByteArray) (hs : Fit ss) (n : Nat) : Nat → List Txt
  | 0 => []
  | j + 1 => bk ss hs n j ++ [⟨(n - 1 - j, ss.getD (n - 1 - j) ⟨#[]⟩), get_size hs _⟩]
theorem bk_length (ss : List ByteArray) (hs : Fit ss) (n j : Nat) : (bk ss hs n j).length = j := by
  induction j with
  | zero => rfl
  | succ j ih => simp [bk, ih]
def KB (keep : Nat → Prop) (X Y : World) : Prop := ∀ a : Addr, keep a.block → Y.cell? a = X.cell? a
set_option maxRecDepth 100000 in
set_option maxHeartbeats 1000000 in
theorem back1_in (n : Nat) (hn : 1 ≤ n) (l Bs m c : Nat) (A : Option Addr) (ss : List ByteArray) (keep : Nat → Prop) (hm : m ≤ 8796093022208) (hs : Fit ss) (J Jx : List Txt → World → Prop)
    (hY : ∀ pre x W, J pre W → pre.length < m → YieldAt Fence.wide (n - 1) Tryd.prog l (sv2 x) W fun e W' =>
      (e = .returned (.bool true) ∧ J (pre ++ [x]) W' ∧ KB keep W W') ∨ (e = .returned (.bool false) ∧ Jx (pre ++ [x]) W'))
    (W : World) (hB : W.cell? ⟨Bs, 0, none⟩ = some (.slice A m c)) (hS : Strs W A m ss) (k1 : keep Bs) (k2 : ∀ ad, A = some ad → keep ad.block) (h0 : J [] W) :
    CallsIn Fence.wide n Tryd.prog 63 #[.func (.yield l) #[] #[], .pointer (some ⟨Bs, 0, none⟩)] W fun e W' => (∃ v, e = .returned v) ∧
      ((∃ ys, ys = bk ss hs m m ∧ J ys W') ∨ (∃ pre, (∃ j, j ≤ m ∧ pre = bk ss hs m j) ∧ Jx pre W')) := by
  refine callsIn_of_wp Tryd.func63 rfl trivial ?_ rfl
  simp only [Tryd.ntmps63, List.size_toArray, List.length_cons, List.length_nil, Nat.reduceAdd, Nat.reduceSub, Array.replicate_succ, Array.replicate_zero, List.push_toArray, List.append_toArray, List.nil_append, List.cons_append]
  have HS := Lib.hid hS
  have HY := Lib.hid hY
  clear hS hY
  gi_wp2
  gi_loopw [3] (fun p wr => ∃ j : Nat, p = .int .i64 ((m : Int) - 1 - (j : Int)) ∧ j ≤ m ∧ Hid (KB keep W wr) ∧ Hid (J (bk ss hs m j) wr))
    (fun p _ => (intOf p + 1).toNat)
  case atStart => exact ⟨0, by simp, by omega, Lib.hid (fun _ _ => rfl), Lib.hid h0⟩
  case round =>
    obtain ⟨j, rfl, hj, hk, hJ⟩ := hrel
    have hb : wr.cell? ⟨Bs, 0, none⟩ = some (.slice A m c) := (hk.out ⟨Bs, 0, none⟩ k1).trans hB
    by_cases hlt : j < m
    · obtain ⟨i, hi⟩ : ∃ i, m = j + 1 + i := ⟨m - j - 1, by omega⟩
      have hi1 : m - 1 - j = i := by omega
      rw [show (m : Int) - 1 - (j : Int) = (i : Int) by omega]
      obtain ⟨ad, hA, _, hcell⟩ := HS.out.at_ i (by omega)
      have hc : wr.cell? (ad.add i) = some (.string (ss.getD i ⟨#[]⟩)) := (hk.out (ad.add i) (by rw [add_block]; exact k2 ad hA)).trans hcell
      obtain ⟨fn, tmps, assign, body, hy, hR⟩ := HY.out _ ⟨(i, ss.getD i ⟨#[]⟩), get_size hs i⟩ wr hJ.out (by rw [bk_length]; exact hlt)
      have HE : Hid (bk ss hs m j ++ [⟨(i, ss.getD i ⟨#[]⟩), get_size hs i⟩] = bk ss hs m (j + 1)) := Lib.hid (by subst hi1; rfl)
      dsimp only [sv2] at hy
      subst hA
      clear hJ
      generalize hx : ss.getD i ⟨#[]⟩ = x at hy hc
      clear hx
      have hilt : (i : Int) < (m : Int) := by omega
      have HI := Lib.hid hi
      clear hcell hi hi1
      gi_wp2
      refine hR.mono ?_
      clear hR hy
      rintro e W3 (⟨rfl, hJ3, hk3⟩ | ⟨rfl, hJx3⟩)
      · have HJ3 := Lib.hid hJ3
        have HK3 : Hid (KB keep W W3) := Lib.hid (fun a ha => (hk3 a ha).trans (hk.out a ha))
        clear hJ3 hk3 hc hb
        rw [HE.out] at HJ3
        gi_wp2
        go_roundw
        case rel => exact ⟨j + 1, by have := HI.out; rw [show (m : Int) - 1 - ((j + 1 : Nat) : Int) = (i : Int) - 1 by omega], by omega, HK3, HJ3⟩
        case measure => simp only [intOf]; omega
      · gi_wp2
        refine bodyPost_ret (results_none rfl _ _ _) rfl ?_
        refine ⟨⟨_, rfl⟩, .inr ⟨_, ⟨j + 1, by omega, HE.out⟩, hJx3⟩⟩
    · obtain rfl : j = m := by omega
      rw [show (j : Int) - 1 - (j : Int) = -1 by omega]
      gi_wp2
      go_end0
      exact ⟨⟨_, rfl⟩, .inl ⟨_, rfl, hJ.out⟩⟩
theorem back_calls (A : Option Addr) (m c : Nat) (w : World) :
    Calls Tryd.prog 52 #[.slice A m c] w fun e w' => e = .returned (.func (.func 63) #[] #[.pointer (some ⟨w.heap.size, 0, none⟩)]) ∧ w' = w.alloc (.cells #[.slice A m c] 22) := by
  go_enter Tryd.func52, Tryd.ntmps52
  go_wp2
  go_ret
  exact ⟨rfl, rfl⟩
theorem back_stops (n : Nat) (hn : 1 ≤ n) (Bs m c : Nat) (A : Option Addr) (ss : List ByteArray) (keep : Nat → Prop) (hm : m ≤ 8796093022208) (hs : Fit ss) (w : World) (b1 : Bs < w.heap.size)
    (hB : w.cell? ⟨Bs, 0, none⟩ = some (.slice A m c)) (hS : Strs w A m ss) (k1 : keep Bs) (k2 : ∀ ad, A = some ad → keep ad.block) :
    SeqStopsK Fence.wide n Tryd.prog 63 #[.pointer (some ⟨Bs, 0, none⟩)] sv2 (KB keep) (fun ys => ys = bk ss hs m m) (fun pre => ∃ j, j ≤ m ∧ pre = bk ss hs m j) m w := fun l J Jx W hW _ _ hY h0 =>
  back1_in n hn l Bs m c A ss keep hm hs J Jx hY W ((hW.cell (p := ⟨Bs, 0, none⟩) b1).trans hB) (hS.below hW) k1 k2 h0

/-! ### tree.Fold -/
def accY (k : Int) (ss : List ByteArray) (pre : List Txt) : ByteArray := pre.foldl (fun a x => nodeH k x.1.2 a) (acc k ss 0)
theorem accY_snoc (k : Int) (ss : List ByteArray) (pre : List Txt) (x : Txt) : accY k ss (pre ++ [x]) = nodeH k x.1.2 (accY k ss pre) := by simp [accY]
theorem accY_bk (k : Int) (ss ts : List ByteArray) (ht : Fit ts) (m : Nat) (hm : ss.length = m + 1) (hg : ∀ i, i < m → ts.getD i ⟨#[]⟩ = ss.getD i ⟨#[]⟩) (j : Nat) (hj : j ≤ m) : accY k ss (bk ts ht m j) = acc k ss j := by
  induction j with
  | zero => rfl
  | succ j ih =>
    simp only [bk]
    rw [accY_snoc, ih (by omega), acc_succ k ss j (by omega), hm, show m + 1 - 1 - (j + 1) = m - 1 - j by omega]
    congr 1
    exact hg _ (by omega)
theorem accY_size (k : Int) (ss : List ByteArray) {hacc0 : (acc k ss 0).size ≤ 140737488351300} (pre : List Txt) : (accY k ss pre).size ≤ 140737488351300 := by
  rcases List.eq_nil_or_concat pre with rfl | ⟨l, x, rfl⟩
  · exact hacc0
  · rw [List.concat_eq_append, accY_snoc, nodeH_size]
    have := wid_le k
    omega
theorem kf_below {B : Nat} {W W' : World} (h : Below W.heap.size W W') : KeepsFrom B W W' :=
  ⟨h.size, fun k o _ hk _ => (h.block k (Array.getElem?_eq_some_iff.1 hk).1).trans hk⟩
theorem fold_nil (k : Int) (A : Option Addr) (c : Nat) (w : World) (hT : Tab w) : Calls Tryd.prog 33 #[.int .i64 k, .slice A 0 c] w (Gives (emptyH k) w) := by
  have hb0 := (Below.refl w.heap.size w).alloc (Nat.le_refl _) (.cells #[.int .i64 k] 3)
  have HE := Lib.hid (empty_calls k _ (hT.below hb0))
  have HB := Lib.hid hb0
  clear hT hb0
  go_enter Tryd.func33, Tryd.ntmps33
  go_wp2_with fail
  refine HE.out.mono ?_; rintro e w1 ⟨rfl, hb⟩
  have HC := Lib.hid (HB.out.trans (hb.mono HB.out.size))
  clear hb
  go_wp2
  go_ret
  exact ⟨rfl, HC.out⟩
set_option maxRecDepth 100000 in
set_option maxHeartbeats 4000000 in
theorem fold_calls (k : Int) (A : Option Addr) (n c : Nat) (ss : List ByteArray) (w : World) (hS : Strs w A n ss) (hc : n ≤ c) (hn0 : 0 < n) (hn : n ≤ 8796093022208) (hs : Fit ss) (hT : Tab w) :
    Calls Tryd.prog 33 #[.int .i64 k, .slice A n c] w (Gives (foldH k ss) w) := by
  refine (callsIn_wide (n := 6)).1 ?_
  have hl := hS.len
  obtain ⟨m, rfl⟩ : ∃ m, n = m + 1 := ⟨n - 1, by omega⟩
  obtain ⟨ad, rfl, hab, hcell⟩ := hS.at_ m (by omega)
  have hacc : ∀ j, j ≤ m → (acc k ss j).size ≤ 140737488351300 := fun j hj => acc_size k ss _ (by omega) hs (by omega) j (by omega)
  have h0 : ss.getD m ⟨#[]⟩ = acc k ss 0 := by rw [acc_zero, hl]; rfl
  have ht : Fit (ss.take m) := fun s h => hs s (List.mem_of_mem_take h)
  have hend : accY k ss (bk (ss.take m) ht m m) = foldH k ss := by
    rw [← acc_end k ss (by omega), show ss.length - 1 = m by omega]
    refine accY_bk k ss _ ht m (by omega) (fun i hi => ?_) m (Nat.le_refl _)
    rw [List.getD_eq_getElem?_getD, List.getD_eq_getElem?_getD, List.getElem?_take_of_lt hi]
  rw [h0] at hcell
  have hacc := accY_size k ss (hacc0 := hacc 0 (by omega))
  have HT := Lib.hid hT
  have HS := Lib.hid hS
  have hr := fun W => run_cut_h W (some ad) (m + 1) c m (by omega)
  have hw1 : IntKind.i64.wrap (((m + 1 : Nat) : Int) - 1) = (m : Int) := by rw [IntWalk.i64_in _ (by omega)]; omega
  have HEND := Lib.hid hend
  have HACC := Lib.hid hacc
  clear hT hS hl hacc h0 hend
  refine callsIn_of_wp_marks Tryd.func33 rfl trivial ?_ rfl
  simp only [Tryd.ntmps33, List.size_toArray, List.length_cons, List.length_nil, Nat.reduceAdd, Nat.reduceSub, Array.replicate_succ, Array.replicate_zero, List.push_toArray, List.append_toArray, List.nil_append, List.cons_append]
  have hne0 : ((m : Int) + 1 == 0) = false := by rw [beq_eq_false_iff_ne]; omega
  have hcell' : (w.alloc (.cells #[.int .i64 k] 3)).cell? (ad.add m) = some (.string (acc k ss 0)) := ((Below.refl w.heap.size w).alloc (Nat.le_refl _) _).cell (by rw [add_block]; exact hab) |>.trans hcell
  gi_wp2_with (refine ⟨trivial, ?_⟩; gi_at_call 52; refine (callsIn_wide.2 (back_calls _ _ _ _)).mono ?_; rintro e w' ⟨rfl, rfl⟩)
  have bW := ((Boxed.new w 3 (.int .i64 k)).alloc (.cells #[.string (acc k ss 0)] 9)).alloc (.cells #[.slice (some ad) m c] 22)
  have bR := (Boxed.new (w.alloc (.cells #[.int .i64 k] 3)) 9 (.string (acc k ss 0))).alloc (.cells #[.slice (some ad) m c] 22)
  have bS := Boxed.new ((w.alloc (.cells #[.int .i64 k] 3)).alloc (.cells #[.string (acc k ss 0)] 9)) 22 (.slice (some ad) m c)
  simp only [World.size_alloc] at bR bS
  have hB0 : Below w.heap.size w (((w.alloc (.cells #[.int .i64 k] 3)).alloc (.cells #[.string (acc k ss 0)] 9)).alloc (.cells #[.slice (some ad) m c] 22)) := (((Below.refl _ w).alloc (Nat.le_refl _) _).alloc (by simp) _).alloc (by simp; omega) _
  have hsz : (((w.alloc (.cells #[.int .i64 k] 3)).alloc (.cells #[.string (acc k ss 0)] 9)).alloc (.cells #[.slice (some ad) m c] 22)).heap.size = w.heap.size + 3 := by simp
  obtain ⟨W0, hW0⟩ : ∃ W0, ((w.alloc (.cells #[.int .i64 k] 3)).alloc (.cells #[.string (acc k ss 0)] 9)).alloc (.cells #[.slice (some ad) m c] 22) = W0 := ⟨_, rfl⟩
  rw [hW0] at bW bR bS hB0 hsz ⊢
  clear hW0 hcell hcell'
  have hS0 := (HS.out.take m (by omega)).below hB0
  refine wpIn_rangeFunc_ownG rfl (by omega) (gf := 63) (lb := #[.pointer (some ⟨w.heap.size + 1 + 1, 0, none⟩)]) rfl trivial (enters_of Tryd.func63 (by kernel_rfl) rfl)
    (back_stops _ (by omega) (w.heap.size + 1 + 1) m c (some ad) (ss.take m) (fun b => b ≠ w.heap.size + 1 ∧ b < w.heap.size + 3) (by omega) ht W0 (by omega) bS.cell hS0 (by omega) (fun a e => by cases e; omega))
    (fun h k a ha => (k a ha).trans (h a ha)) (fun W l o o' hl _ _ _ a ha => World.cell?_of_block (World.putObj_heap_other (by omega))) (Below.refl _ _) (fun _ => rfl)
    (fun pre W => (Boxed W (w.heap.size + 1) 9 (.string (accY k ss pre)) ∧ (Boxed W w.heap.size 3 (.int .i64 k) ∧ w.heap.size + 3 ≤ W.heap.size)) ∧ Below w.heap.size w W)
    (fun _ _ _ => False)
    (OwnFrom.and (OwnFrom.and (Own.from (boxed_own _ _ _) _) (OwnFrom.and (Own.from (boxed_own _ _ _) _) (fun s A B row hs hg hr => Nat.le_trans hs hg.size))) (ownFrom_below (Nat.le_refl _) (by omega)))
    (fun _ _ _ _ _ hs _ _ => hs)
    ⟨⟨bR, bW, by omega⟩, hB0⟩
    (fun x => { tmps := #[.int .i64 k, .slice (some ad) (m + 1) c, .pointer (some ⟨w.heap.size, 0, none⟩), undef, .string ⟨#[]⟩, .int .i64 (m : Int), .pointer (some ⟨w.heap.size + 1, 0, none⟩), undef, .string x.1.2, .slice (some ad) (m + 1) c, .int .i64 ((m : Int) + 1), .bool false, undef, undef, .slice (some ad) (m + 1) c, .int .i64 ((m : Int) + 1), .int .i64 (m : Int), .slice (some ad) (m + 1) c, .int .i64 (m : Int), .pointer (some (ad.add m)), .string (acc k ss 0), .slice (some ad) (m + 1) c, .int .i64 (m : Int), .slice (some ad) m c, .func (.func 63) #[] #[.pointer (some ⟨w.heap.size + 1 + 1, 0, none⟩)], .int .i64 (x.1.1 : Int), .string x.1.2, undef, undef, undef, undef, undef], defers := [] }) ?assign ?body ?done ?stop
  case assign =>
    intro l x W K hK
    gi_wp2
    exact hK
  case body =>
    rintro l pre x W ⟨⟨bR1, bW1, hz1⟩, hB1⟩ hlt
    have cR := bR1.cell
    have cW := bW1.cell
    have hx := x.2
    have hy := HACC.out pre
    have HN := Lib.hid (node_calls k x.1.2 (accY k ss pre) (by omega) W (HT.out.below hB1))
    have HE := Lib.hid (accY_snoc k ss pre x)
    have hlr := bR1.lt
    have hlw := bW1.lt
    gi_wp2_with (refine ⟨trivial, ?_⟩; gi_at_call 53; refine (CallsIn.inRound l (callsIn_wide.2 HN.out)).mono ?_; rintro e w2 ⟨rfl, hb2⟩; have bR2 : Boxed w2 (w.heap.size + 1) 9 (.string (accY k ss pre)) := (hb2.block _ hlr).trans bR1; have bW2 : Boxed w2 w.heap.size 3 (.int .i64 k) := (hb2.block _ hlw).trans bW1; have cR2 := bR2.cell; have fR2 := bR2.frozen)
    refine ⟨(kf_below hb2).trans ((KeepsOthers.setCell _ _ _).from _), fun a ha => ?_, ⟨⟨by rw [HE.out]; exact bR2.set _, bW2.other (by omega) _, by have := hb2.size; simp; omega⟩, (hB1.trans (hb2.mono hB1.size)).setCell (p := ⟨w.heap.size + 1, 0, none⟩) (by simp) _⟩⟩
    have h1 : a.block < W.heap.size := by have := ha.2; omega
    rw [World.cell?_of_block (Below.heap_setCell w2 ⟨w.heap.size + 1, 0, none⟩ _ a.block ha.1)]
    exact hb2.cell h1
  case done =>
    rintro D ys W hD rfl ⟨⟨bR1, bW1, hz1⟩, hB1⟩ hK
    have cR := bR1.cell
    gi_wp2
    refine ⟨by simp, .inl ⟨_, _, rfl, run_takeDeferred hK, ?_⟩⟩
    refine ⟨_, results_tmp rfl _ _ _, by rw [HEND.out]; rfl, hB1.trans (belowK_b (w := w) (Nat.le_refl _) W D _ _ (by omega) hK rfl rfl)⟩
  case stop =>
    rintro D c pre W _ _ h _
    exact h.elim
end Go.Proofs.YtahkpcbemnfllaaDoor.Fold
