/- MthLists: its walk. -/
import Derived.Test.YtcenfedmbicofaaDoorLists3
import Derived.Deep.RegionHeld3
set_option linter.unusedVariables false
set_option linter.unusedSimpArgs false
namespace Go.Proofs.YtcenfedmbicofaaDoor.Mth
open Go.RowKit Go.Proofs.YtcenfedmbicofaaDoor.Base Go.Proofs.YtcenfedmbicofaaDoor.ShaPlain Go.Proofs.YtcenfedmbicofaaDoor.ShaDig Go.Proofs.YtcenfedmbicofaaDoor.TreeHash Go.Proofs.YtcenfedmbicofaaDoor.Strs Go.Proofs.YtcenfedmbicofaaDoor.Mem Go.Proofs.YtcenfedmbicofaaDoor.Fam

abbrev xy : List ByteArray := [⟨#[120]⟩, ⟨#[121]⟩]
abbrev xyBox : Obj := .cells #[.string ⟨#[120]⟩, .string ⟨#[121]⟩] 9
theorem xy_strs (W : World) : Strs (W.alloc xyBox) (some ⟨W.heap.size, 0, none⟩) 2 xy := by
  have r := Row.new W #[.string ⟨#[120]⟩, .string ⟨#[121]⟩] 9
  refine ⟨rfl, fun _ => ⟨_, rfl, r.lt, fun i hi => ?_⟩⟩
  have e : (⟨W.heap.size, 0, none⟩ : Addr).add i = ⟨W.heap.size, i, none⟩ := Arr.add_plain W.heap.size i 0 |>.trans (by rw [Nat.zero_add])
  rw [e, r.cell]
  match i, hi with
  | 0, _ => rfl
  | 1, _ => rfl
theorem xy_all : All xy := fun s h => by
  simp only [xy, List.mem_cons, List.not_mem_nil, or_false] at h
  rcases h with rfl | rfl <;> decide
set_option maxRecDepth 100000 in
set_option maxHeartbeats 40000000 in
theorem mthLists_in (k i m : Int) (A : Option Addr) (n c : Nat) (ss : List ByteArray) (w : World) (hC : Came w A n c ss) (hT : Tab w) (hR : RTab w) :
    Calls Tryd.prog 13 #[.int .i64 k, .int .i64 i, .int .i64 m, .slice A n c] w (fun e w' => e = .returned (.bool true) ∧ Below w.heap.size w w') := by
  obtain ⟨hS, hnc, hcc, hsz⟩ := hC
  have hl := hS.len
  have hn : n ≤ 8796093022207 := by omega
  have ha1 : All ss := All.of hsz
  have HRN := Lib.hid (fun W (hb : Below w.heap.size w W) => renewed_calls k i m A n c ss W (hS.below hb) hn hsz (hT.below hb) (hR.below hb))
  have HA : Hid (∀ W, Below w.heap.size w W → Calls Tryd.prog 29 #[.int .i64 k, .int .i64 i, .slice A n c] W (Pair (pathL k i ss) (pathR i n) W)) := Lib.hid (fun W hb => rPath_calls k i A n c ss W (hS.below hb) hnc (by omega) ha1 (hR.below hb))
  have HB : Hid (∀ W, Below w.heap.size w W → Calls Tryd.prog 37 #[.int .i64 k, .int .i64 m, .slice A n c] W (Pair (prfL k m ss) (prfR m n) W)) := Lib.hid (fun W hb => rProof_calls k m A n c ss W (hS.below hb) hnc (by omega) ha1 (hR.below hb))
  have HE : Hid (∀ W, Below w.heap.size w W → Calls Tryd.prog 28 #[.int .i64 k, .int .i64 i, .slice A n c] W (Pair (pathL k i ss) (pathR i n) W)) := Lib.hid (fun W hb => mPath_calls k i A n c ss W (hS.below hb) hnc (by omega) ha1 (hT.below hb))
  have HG : Hid (∀ W, Below w.heap.size w W → Calls Tryd.prog 36 #[.int .i64 k, .int .i64 m, .slice A n c] W (Pair (prfL k m ss) (prfR m n) W)) := Lib.hid (fun W hb => mProof_calls k m A n c ss W (hS.below hb) hnc (by omega) ha1 (hT.below hb))
  have HXA : Hid (∀ W, Below w.heap.size w W → Calls Tryd.prog 29 #[.int .i64 k, .int .i64 0, .slice (some ⟨W.heap.size, 0, none⟩) 2 2] (W.alloc xyBox) (Pair (pathL k 0 xy) (pathR 0 2) (W.alloc xyBox))) := Lib.hid (fun W hb => rPath_calls k 0 _ 2 2 xy _ (xy_strs W) (by omega) (by omega) xy_all (hR.below (hb.trans (((Below.refl _ W).alloc (Nat.le_refl _) xyBox).mono hb.size))))
  have HXB : Hid (∀ W, Below w.heap.size w W → Calls Tryd.prog 37 #[.int .i64 k, .int .i64 1, .slice (some ⟨W.heap.size, 0, none⟩) 2 2] (W.alloc xyBox) (Pair (prfL k 1 xy) (prfR 1 2) (W.alloc xyBox))) := Lib.hid (fun W hb => rProof_calls k 1 _ 2 2 xy _ (xy_strs W) (by omega) (by omega) xy_all (hR.below (hb.trans (((Below.refl _ W).alloc (Nat.le_refl _) xyBox).mono hb.size))))
  have HXE : Hid (∀ W, Below w.heap.size w W → Calls Tryd.prog 28 #[.int .i64 k, .int .i64 0, .slice (some ⟨W.heap.size, 0, none⟩) 2 2] (W.alloc xyBox) (Pair (pathL k 0 xy) (pathR 0 2) (W.alloc xyBox))) := Lib.hid (fun W hb => mPath_calls k 0 _ 2 2 xy _ (xy_strs W) (by omega) (by omega) xy_all (hT.below (hb.trans (((Below.refl _ W).alloc (Nat.le_refl _) xyBox).mono hb.size))))
  have HXG : Hid (∀ W, Below w.heap.size w W → Calls Tryd.prog 36 #[.int .i64 k, .int .i64 1, .slice (some ⟨W.heap.size, 0, none⟩) 2 2] (W.alloc xyBox) (Pair (prfL k 1 xy) (prfR 1 2) (W.alloc xyBox))) := Lib.hid (fun W hb => mProof_calls k 1 _ 2 2 xy _ (xy_strs W) (by omega) (by omega) xy_all (hT.below (hb.trans (((Below.refl _ W).alloc (Nat.le_refl _) xyBox).mono hb.size))))
  have HLP : Hid ((pathL k i ss).length ≤ 1048576) := Lib.hid (by have := pathL_log k i ss (by omega); omega)
  have HLQ : Hid ((prfL k m ss).length ≤ 1048576) := Lib.hid (by have := prfL_log k m ss (by omega); omega)
  have HLO : Hid ((pathL k 0 xy).length ≤ 1048576) := Lib.hid (by have := pathL_len k 0 xy; simp at this; omega)
  have HLT : Hid ((prfL k 1 xy).length ≤ 1048576) := Lib.hid (by have := prfL_len k 1 xy; simp at this; omega)
  have HF : Hid (Fm w [] w) := Lib.hid (Fm.nil (Below.refl _ w))
  have HOM : Hid (∀ q : Nat, q < 10 → ∀ W, Calls Tryd.prog 39 #[.int .i64 (q : Int)] W (fun e w' => e = .returned (.string (om q)) ∧ Below W.heap.size W w')) := Lib.hid (fun q hq W => ownMark_calls q hq W)
  clear hS hT hR ha1 hl hsz hcc
  generalize pathL k i ss = P at *
  generalize prfL k m ss = Q at *
  generalize pathL k 0 xy = O at *
  generalize prfL k 1 xy = T at *
  generalize pathR i n = pr at *
  generalize prfR m n = qr at *
  generalize pathR 0 2 = por at *
  generalize prfR 1 2 = tr at *
  go_enter Tryd.func13, Tryd.ntmps13
  go_wp2_with fail
  refine (HA.out _ HF.out.bel).mono ?_
  rintro e w_a ⟨v, rfl, OW, C⟩
  obtain ⟨A_a, c_a, rfl, _, _⟩ := OW.shape
  replace HF : Hid (Fm w [(.slice A_a P.length c_a, P)] w_a) := Lib.hid (HF.out.add C OW)
  clear OW C
  go_wp2_with fail
  refine (HB.out _ HF.out.bel).mono ?_
  rintro e w_b ⟨v, rfl, OW, C⟩
  obtain ⟨A_b, c_b, rfl, _, _⟩ := OW.shape
  replace HF : Hid (Fm w [(.slice A_a P.length c_a, P), (.slice A_b Q.length c_b, Q)] w_b) := Lib.hid (HF.out.add C OW)
  clear OW C
  go_wp2_with fail
  refine (HXA.out _ HF.out.bel).mono ?_
  rintro e w_c ⟨v, rfl, OW, C⟩
  obtain ⟨A_c, c_c, rfl, _, _⟩ := OW.shape
  replace HF := Lib.hid (HF.out.call ((Below.refl _ _).alloc (Nat.le_refl _) xyBox))
  replace HF : Hid (Fm w [(.slice A_a P.length c_a, P), (.slice A_b Q.length c_b, Q), (.slice A_c O.length c_c, O)] w_c) := Lib.hid (HF.out.add C OW)
  clear OW C
  go_wp2_with fail
  refine (HXB.out _ HF.out.bel).mono ?_
  rintro e w_x ⟨v, rfl, OW, C⟩
  obtain ⟨A_x, c_x, rfl, _, _⟩ := OW.shape
  replace HF := Lib.hid (HF.out.call ((Below.refl _ _).alloc (Nat.le_refl _) xyBox))
  replace HF : Hid (Fm w [(.slice A_a P.length c_a, P), (.slice A_b Q.length c_b, Q), (.slice A_c O.length c_c, O), (.slice A_x T.length c_x, T)] w_x) := Lib.hid (HF.out.add C OW)
  clear OW C
  go_wp2_with fail
  refine (HE.out _ HF.out.bel).mono ?_
  rintro e w_p1 ⟨v, rfl, OW, C⟩
  obtain ⟨A_p1, c_p1, rfl, _, _⟩ := OW.shape
  replace HF : Hid (Fm w [(.slice A_a P.length c_a, P), (.slice A_b Q.length c_b, Q), (.slice A_c O.length c_c, O), (.slice A_x T.length c_x, T), (.slice A_p1 P.length c_p1, P)] w_p1) := Lib.hid (HF.out.add C OW)
  clear OW C
  go_wp2_with fail
  refine (HE.out _ HF.out.bel).mono ?_
  rintro e w_p2 ⟨v, rfl, OW, C⟩
  obtain ⟨A_p2, c_p2, rfl, _, _⟩ := OW.shape
  replace HF : Hid (Fm w [(.slice A_a P.length c_a, P), (.slice A_b Q.length c_b, Q), (.slice A_c O.length c_c, O), (.slice A_x T.length c_x, T), (.slice A_p1 P.length c_p1, P), (.slice A_p2 P.length c_p2, P)] w_p2) := Lib.hid (HF.out.add C OW)
  clear OW C
  go_wp2_with fail
  refine (HXE.out _ HF.out.bel).mono ?_
  rintro e w_o1 ⟨v, rfl, OW, C⟩
  obtain ⟨A_o1, c_o1, rfl, _, _⟩ := OW.shape
  replace HF := Lib.hid (HF.out.call ((Below.refl _ _).alloc (Nat.le_refl _) xyBox))
  replace HF : Hid (Fm w [(.slice A_a P.length c_a, P), (.slice A_b Q.length c_b, Q), (.slice A_c O.length c_c, O), (.slice A_x T.length c_x, T), (.slice A_p1 P.length c_p1, P), (.slice A_p2 P.length c_p2, P), (.slice A_o1 O.length c_o1, O)] w_o1) := Lib.hid (HF.out.add C OW)
  clear OW C
  go_wp2_with fail
  refine (HXE.out _ HF.out.bel).mono ?_
  rintro e w_o2 ⟨v, rfl, OW, C⟩
  obtain ⟨A_o2, c_o2, rfl, _, _⟩ := OW.shape
  replace HF := Lib.hid (HF.out.call ((Below.refl _ _).alloc (Nat.le_refl _) xyBox))
  replace HF : Hid (Fm w [(.slice A_a P.length c_a, P), (.slice A_b Q.length c_b, Q), (.slice A_c O.length c_c, O), (.slice A_x T.length c_x, T), (.slice A_p1 P.length c_p1, P), (.slice A_p2 P.length c_p2, P), (.slice A_o1 O.length c_o1, O), (.slice A_o2 O.length c_o2, O)] w_o2) := Lib.hid (HF.out.add C OW)
  clear OW C
  go_wp2_with fail
  refine (HE.out _ HF.out.bel).mono ?_
  rintro e w_p3 ⟨v, rfl, OW, C⟩
  obtain ⟨A_p3, c_p3, rfl, _, _⟩ := OW.shape
  replace HF : Hid (Fm w [(.slice A_a P.length c_a, P), (.slice A_b Q.length c_b, Q), (.slice A_c O.length c_c, O), (.slice A_x T.length c_x, T), (.slice A_p1 P.length c_p1, P), (.slice A_p2 P.length c_p2, P), (.slice A_o1 O.length c_o1, O), (.slice A_o2 O.length c_o2, O), (.slice A_p3 P.length c_p3, P)] w_p3) := Lib.hid (HF.out.add C OW)
  clear OW C
  go_wp2_with fail
  refine (HG.out _ HF.out.bel).mono ?_
  rintro e w_q1 ⟨v, rfl, OW, C⟩
  obtain ⟨A_q1, c_q1, rfl, _, _⟩ := OW.shape
  replace HF : Hid (Fm w [(.slice A_a P.length c_a, P), (.slice A_b Q.length c_b, Q), (.slice A_c O.length c_c, O), (.slice A_x T.length c_x, T), (.slice A_p1 P.length c_p1, P), (.slice A_p2 P.length c_p2, P), (.slice A_o1 O.length c_o1, O), (.slice A_o2 O.length c_o2, O), (.slice A_p3 P.length c_p3, P), (.slice A_q1 Q.length c_q1, Q)] w_q1) := Lib.hid (HF.out.add C OW)
  clear OW C
  go_wp2_with fail
  refine (HG.out _ HF.out.bel).mono ?_
  rintro e w_q2 ⟨v, rfl, OW, C⟩
  obtain ⟨A_q2, c_q2, rfl, _, _⟩ := OW.shape
  replace HF : Hid (Fm w [(.slice A_a P.length c_a, P), (.slice A_b Q.length c_b, Q), (.slice A_c O.length c_c, O), (.slice A_x T.length c_x, T), (.slice A_p1 P.length c_p1, P), (.slice A_p2 P.length c_p2, P), (.slice A_o1 O.length c_o1, O), (.slice A_o2 O.length c_o2, O), (.slice A_p3 P.length c_p3, P), (.slice A_q1 Q.length c_q1, Q), (.slice A_q2 Q.length c_q2, Q)] w_q2) := Lib.hid (HF.out.add C OW)
  clear OW C
  go_wp2_with fail
  refine (HXG.out _ HF.out.bel).mono ?_
  rintro e w_t1 ⟨v, rfl, OW, C⟩
  obtain ⟨A_t1, c_t1, rfl, _, _⟩ := OW.shape
  replace HF := Lib.hid (HF.out.call ((Below.refl _ _).alloc (Nat.le_refl _) xyBox))
  replace HF : Hid (Fm w [(.slice A_a P.length c_a, P), (.slice A_b Q.length c_b, Q), (.slice A_c O.length c_c, O), (.slice A_x T.length c_x, T), (.slice A_p1 P.length c_p1, P), (.slice A_p2 P.length c_p2, P), (.slice A_o1 O.length c_o1, O), (.slice A_o2 O.length c_o2, O), (.slice A_p3 P.length c_p3, P), (.slice A_q1 Q.length c_q1, Q), (.slice A_q2 Q.length c_q2, Q), (.slice A_t1 T.length c_t1, T)] w_t1) := Lib.hid (HF.out.add C OW)
  clear OW C
  go_wp2_with fail
  refine (HXG.out _ HF.out.bel).mono ?_
  rintro e w_t2 ⟨v, rfl, OW, C⟩
  obtain ⟨A_t2, c_t2, rfl, _, _⟩ := OW.shape
  replace HF := Lib.hid (HF.out.call ((Below.refl _ _).alloc (Nat.le_refl _) xyBox))
  replace HF : Hid (Fm w [(.slice A_a P.length c_a, P), (.slice A_b Q.length c_b, Q), (.slice A_c O.length c_c, O), (.slice A_x T.length c_x, T), (.slice A_p1 P.length c_p1, P), (.slice A_p2 P.length c_p2, P), (.slice A_o1 O.length c_o1, O), (.slice A_o2 O.length c_o2, O), (.slice A_p3 P.length c_p3, P), (.slice A_q1 Q.length c_q1, Q), (.slice A_q2 Q.length c_q2, Q), (.slice A_t1 T.length c_t1, T), (.slice A_t2 T.length c_t2, T)] w_t2) := Lib.hid (HF.out.add C OW)
  clear OW C
  go_wp2_with fail
  refine (HG.out _ HF.out.bel).mono ?_
  rintro e w_q3 ⟨v, rfl, OW, C⟩
  obtain ⟨A_q3, c_q3, rfl, _, _⟩ := OW.shape
  replace HF : Hid (Fm w [(.slice A_a P.length c_a, P), (.slice A_b Q.length c_b, Q), (.slice A_c O.length c_c, O), (.slice A_x T.length c_x, T), (.slice A_p1 P.length c_p1, P), (.slice A_p2 P.length c_p2, P), (.slice A_o1 O.length c_o1, O), (.slice A_o2 O.length c_o2, O), (.slice A_p3 P.length c_p3, P), (.slice A_q1 Q.length c_q1, Q), (.slice A_q2 Q.length c_q2, Q), (.slice A_t1 T.length c_t1, T), (.slice A_t2 T.length c_t2, T), (.slice A_q3 Q.length c_q3, Q)] w_q3) := Lib.hid (HF.out.add C OW)
  clear OW C
  go_wp2_with fail
  refine (same_calls A_p1 A_a P.length P.length c_p1 c_a P P _ (strs_of (c := c_p1) (HF.out.own 4 (by simp))).1 (strs_of (c := c_a) (HF.out.own 0 (by simp))).1 (by have := HLP.out; omega) (by have := HLP.out; omega) true (by simp)).mono ?_
  rintro e wS1 ⟨rfl, C⟩
  replace HF := Lib.hid (HF.out.call C)
  clear C
  go_wp2_with fail
  refine (same_calls A_p2 A_a P.length P.length c_p2 c_a P P _ (strs_of (c := c_p2) (HF.out.own 5 (by simp))).1 (strs_of (c := c_a) (HF.out.own 0 (by simp))).1 (by have := HLP.out; omega) (by have := HLP.out; omega) true (by simp)).mono ?_
  rintro e wS2 ⟨rfl, C⟩
  replace HF := Lib.hid (HF.out.call C)
  clear C
  go_wp2_with fail
  refine (same_calls A_p3 A_a P.length P.length c_p3 c_a P P _ (strs_of (c := c_p3) (HF.out.own 8 (by simp))).1 (strs_of (c := c_a) (HF.out.own 0 (by simp))).1 (by have := HLP.out; omega) (by have := HLP.out; omega) true (by simp)).mono ?_
  rintro e wS3 ⟨rfl, C⟩
  replace HF := Lib.hid (HF.out.call C)
  clear C
  go_wp2_with fail
  refine (same_calls A_o1 A_c O.length O.length c_o1 c_c O O _ (strs_of (c := c_o1) (HF.out.own 6 (by simp))).1 (strs_of (c := c_c) (HF.out.own 2 (by simp))).1 (by have := HLO.out; omega) (by have := HLO.out; omega) true (by simp)).mono ?_
  rintro e wS4 ⟨rfl, C⟩
  replace HF := Lib.hid (HF.out.call C)
  clear C
  go_wp2_with fail
  refine (same_calls A_o2 A_c O.length O.length c_o2 c_c O O _ (strs_of (c := c_o2) (HF.out.own 7 (by simp))).1 (strs_of (c := c_c) (HF.out.own 2 (by simp))).1 (by have := HLO.out; omega) (by have := HLO.out; omega) true (by simp)).mono ?_
  rintro e wS5 ⟨rfl, C⟩
  replace HF := Lib.hid (HF.out.call C)
  clear C
  go_wp2_with fail
  refine (same_calls A_q1 A_b Q.length Q.length c_q1 c_b Q Q _ (strs_of (c := c_q1) (HF.out.own 9 (by simp))).1 (strs_of (c := c_b) (HF.out.own 1 (by simp))).1 (by have := HLQ.out; omega) (by have := HLQ.out; omega) true (by simp)).mono ?_
  rintro e wS6 ⟨rfl, C⟩
  replace HF := Lib.hid (HF.out.call C)
  clear C
  go_wp2_with fail
  refine (same_calls A_q2 A_b Q.length Q.length c_q2 c_b Q Q _ (strs_of (c := c_q2) (HF.out.own 10 (by simp))).1 (strs_of (c := c_b) (HF.out.own 1 (by simp))).1 (by have := HLQ.out; omega) (by have := HLQ.out; omega) true (by simp)).mono ?_
  rintro e wS7 ⟨rfl, C⟩
  replace HF := Lib.hid (HF.out.call C)
  clear C
  go_wp2_with fail
  refine (same_calls A_q3 A_b Q.length Q.length c_q3 c_b Q Q _ (strs_of (c := c_q3) (HF.out.own 13 (by simp))).1 (strs_of (c := c_b) (HF.out.own 1 (by simp))).1 (by have := HLQ.out; omega) (by have := HLQ.out; omega) true (by simp)).mono ?_
  rintro e wS8 ⟨rfl, C⟩
  replace HF := Lib.hid (HF.out.call C)
  clear C
  go_wp2_with fail
  refine (same_calls A_t1 A_x T.length T.length c_t1 c_x T T _ (strs_of (c := c_t1) (HF.out.own 11 (by simp))).1 (strs_of (c := c_x) (HF.out.own 3 (by simp))).1 (by have := HLT.out; omega) (by have := HLT.out; omega) true (by simp)).mono ?_
  rintro e wS9 ⟨rfl, C⟩
  replace HF := Lib.hid (HF.out.call C)
  clear C
  go_wp2_with fail
  refine (same_calls A_t2 A_x T.length T.length c_t2 c_x T T _ (strs_of (c := c_t2) (HF.out.own 12 (by simp))).1 (strs_of (c := c_x) (HF.out.own 3 (by simp))).1 (by have := HLT.out; omega) (by have := HLT.out; omega) true (by simp)).mono ?_
  rintro e wS10 ⟨rfl, C⟩
  replace HF := Lib.hid (HF.out.call C)
  clear C
  have HF2 : Hid (Fm w [(.slice A_p1 P.length c_p1, P), (.slice A_p2 P.length c_p2, P), (.slice A_p3 P.length c_p3, P), (.slice A_o1 O.length c_o1, O), (.slice A_o2 O.length c_o2, O), (.slice A_q1 Q.length c_q1, Q), (.slice A_q2 Q.length c_q2, Q), (.slice A_q3 Q.length c_q3, Q), (.slice A_t1 T.length c_t1, T), (.slice A_t2 T.length c_t2, T), (.slice A_a P.length c_a, P), (.slice A_b Q.length c_b, Q)] _) := Lib.hid (HF.out.pick [4, 5, 8, 6, 7, 9, 10, 13, 11, 12, 0, 1] (fun i hi => (show i < 14 from (by decide : ∀ i ∈ ([4, 5, 8, 6, 7, 9, 10, 13, 11, 12, 0, 1] : List Nat), i < 14) i hi)) (by decide))
  obtain ⟨W0, hW0⟩ : ∃ W0, wS10 = W0 := ⟨_, rfl⟩
  subst hW0
  have bA : Below wS10.heap.size wS10 (wS10.alloc (.cells #[.slice A_p1 P.length c_p1, .slice A_p2 P.length c_p2, .slice A_p3 P.length c_p3, .slice A_o1 O.length c_o1, .slice A_o2 O.length c_o2, .slice A_q1 Q.length c_q1, .slice A_q2 Q.length c_q2, .slice A_q3 Q.length c_q3, .slice A_t1 T.length c_t1, .slice A_t2 T.length c_t2] 26)) := (Below.refl _ _).alloc (Nat.le_refl _) _
  have rA := Row.new wS10 #[.slice A_p1 P.length c_p1, .slice A_p2 P.length c_p2, .slice A_p3 P.length c_p3, .slice A_o1 O.length c_o1, .slice A_o2 O.length c_o2, .slice A_q1 Q.length c_q1, .slice A_q2 Q.length c_q2, .slice A_q3 Q.length c_q3, .slice A_t1 T.length c_t1, .slice A_t2 T.length c_t2] 26
  obtain ⟨LF, hLF⟩ : ∃ LF : List En, LF = [(.slice A_p1 P.length c_p1, P), (.slice A_p2 P.length c_p2, P), (.slice A_p3 P.length c_p3, P), (.slice A_o1 O.length c_o1, O), (.slice A_o2 O.length c_o2, O), (.slice A_q1 Q.length c_q1, Q), (.slice A_q2 Q.length c_q2, Q), (.slice A_q3 Q.length c_q3, Q), (.slice A_t1 T.length c_t1, T), (.slice A_t2 T.length c_t2, T), (.slice A_a P.length c_a, P), (.slice A_b Q.length c_b, Q)] := ⟨_, rfl⟩
  obtain ⟨RW, hRW⟩ : ∃ RW : Array Value, RW = #[.slice A_p1 P.length c_p1, .slice A_p2 P.length c_p2, .slice A_p3 P.length c_p3, .slice A_o1 O.length c_o1, .slice A_o2 O.length c_o2, .slice A_q1 Q.length c_q1, .slice A_q2 Q.length c_q2, .slice A_q3 Q.length c_q3, .slice A_t1 T.length c_t1, .slice A_t2 T.length c_t2] := ⟨_, rfl⟩
  have HFX : Hid (Fix LF wS10.heap.size RW) := Lib.hid (by
    refine ⟨by rw [hLF]; rfl, fun i hi => ?_, fun i hi b e => ?_⟩
    · rw [hLF, hRW]
      match i, hi with
      | 0, _ => rfl
      | 1, _ => rfl
      | 2, _ => rfl
      | 3, _ => rfl
      | 4, _ => rfl
      | 5, _ => rfl
      | 6, _ => rfl
      | 7, _ => rfl
      | 8, _ => rfl
      | 9, _ => rfl
    · have h2 := HF2.out
      rw [← hLF] at h2
      exact h2.lt i (by rw [hLF]; exact hi) b e)
  have HM0 : Hid (Mk w LF wS10.heap.size RW 0 0 (wS10.alloc (.cells #[.slice A_p1 P.length c_p1, .slice A_p2 P.length c_p2, .slice A_p3 P.length c_p3, .slice A_o1 O.length c_o1, .slice A_o2 O.length c_o2, .slice A_q1 Q.length c_q1, .slice A_q2 Q.length c_q2, .slice A_q3 Q.length c_q3, .slice A_t1 T.length c_t1, .slice A_t2 T.length c_t2] 26))) := Lib.hid (Mk.start HFX.out (by rw [hLF]; exact HF2.out.call bA) (by rw [hRW]; exact rA))
  have HLN : Hid (∀ i, i < 10 → nl LF i ≤ 1048576) := Lib.hid (fun i hi => by
    rw [hLF]
    match i, hi with
    | 0, _ => exact HLP.out
    | 1, _ => exact HLP.out
    | 2, _ => exact HLP.out
    | 3, _ => exact HLO.out
    | 4, _ => exact HLO.out
    | 5, _ => exact HLQ.out
    | 6, _ => exact HLQ.out
    | 7, _ => exact HLQ.out
    | 8, _ => exact HLT.out
    | 9, _ => exact HLT.out)
  have HAB : Hid (vl LF 10 = .slice A_a P.length c_a ∧ LF.getD 10 en0 = (.slice A_a P.length c_a, P) ∧ vl LF 11 = .slice A_b Q.length c_b ∧ LF.getD 11 en0 = (.slice A_b Q.length c_b, Q)) := Lib.hid (by rw [hLF]; exact ⟨rfl, rfl, rfl, rfl⟩)
  clear HF HF2 bA rA hLF hRW
  obtain ⟨G, hG⟩ : ∃ G, wS10.heap.size = G := ⟨_, rfl⟩
  rw [hG] at HFX HM0
  go_wp2_with fail
  try rw [hG]
  clear hG
  go_loopw [41] (fun s41 wr => ∃ k : Nat, s41 = .int .i64 (k : Int) ∧ k ≤ 10 ∧ Hid (Mk w LF G RW k 0 wr)) (fun s41 _ => 10 - (intOf s41).toNat)
  case atStart => exact ⟨0, rfl, by omega, HM0⟩
  case round =>
    clear HM0
    obtain ⟨q, rfl, hq, hr⟩ := hrel
    by_cases hlt : q < 10
    · obtain ⟨B, d, hv⟩ := hr.out.shape HFX.out (l := q) (by omega)
      have HV := Lib.hid hv
      have hq1 : (q : Int) < 10 := by omega
      have hq0 : (0 : Int) ≤ (q : Int) := by omega
      have hnl := HLN.out q hlt
      have HNL := Lib.hid (show nl LF q = nl LF q from rfl)
      obtain ⟨N, hN⟩ : ∃ N, nl LF q = N := ⟨_, rfl⟩
      rw [hN] at hv hnl HV
      have HN := Lib.hid hN
      have HMQ := Lib.hid hr.out
      have hX : (⟨G, 0, none⟩ : Addr).add q = ⟨G, q, none⟩ := Arr.add_plain G q 0 |>.trans (by rw [Nat.zero_add])
      clear hv hr HNL hN
      go_wp2_with fail
      go_loopw [42] (fun s42 wr => ∃ j : Nat, s42 = .int .i64 (j : Int) ∧ j ≤ N ∧ Hid (Mk w LF G RW q j wr)) (fun s42 _ => N - (intOf s42).toNat)
      case atStart => exact ⟨0, rfl, by omega, HMQ⟩
      case round =>
        clear HMQ
        obtain ⟨j, rfl, hj, hr⟩ := hrel
        have ck : wr.cell? ⟨G, q, none⟩ = some (.slice B N d) := (hr.out.look HFX.out hlt).trans (congrArg some HV.out)
        by_cases hlj : j < N
        · obtain ⟨g, hg, hgb, _, _, hgG, _⟩ := hr.out.write HFX.out hlt HV.out hlj
          subst hg
          have HC : Hid (∀ W, Below wr.heap.size wr W → W.cell? ⟨G, q, none⟩ = some (.slice (some ⟨g, 0, none⟩) N d)) := Lib.hid (fun W hW => ((hr.out.call hW).look HFX.out hlt).trans (congrArg some HV.out))
          have HW : Hid (∀ W, Below wr.heap.size wr W → (∃ u, W.cell? ⟨g, j, none⟩ = some u) ∧ W.frozen? ⟨g, j, none⟩ = false ∧ Mk w LF G RW q (j + 1) (W.setCell ⟨g, j, none⟩ (.string (mkT q)))) := Lib.hid (fun W hW => by
            obtain ⟨g', e, _, h1, h2, _, h3⟩ := (hr.out.call hW).write HFX.out hlt HV.out hlj
            injection e with e
            injection e with e
            subst e
            exact ⟨h1, h2, h3⟩)
          have hXj : (⟨g, 0, none⟩ : Addr).add j = ⟨g, j, none⟩ := Arr.add_plain g j 0 |>.trans (by rw [Nat.zero_add])
          have hOM := Lib.hid (HOM.out q hlt)
          have hom := om_size q
          have j0 : (0 : Int) ≤ (j : Int) := by omega
          have j1 : (j : Int) < (N : Int) := by omega
          have hgG2 : ¬ (G = g) := fun e => hgG e.symm
          have hgG3 : ¬ (g = G) := hgG
          have hcat : ¬ (9223372036854775807 : Nat) < (⟨#[47]⟩ : ByteArray).size + (om q).size := by rw [hom]; decide
          clear hr
          go_wp2_with fail
          go_region_held3 (fun W => W.cell? ⟨G, q, none⟩ = some (.slice (some ⟨g, 0, none⟩) N d)) (first | go_keep | exact HC.out _ B4) ((go_at_call 39; (with_reducible refine (hOM.out _).mono ?_); rintro e w4 ⟨rfl, b4⟩; have B4 : Below wr.heap.size wr w4 := (Below.refl _ wr).drew.trans (b4.mono (Nat.le_refl _)); have HN4 := Lib.hid (HW.out _ B4); obtain ⟨⟨u4, cu4⟩, fr4, _⟩ := HN4.out; clear b4))
          all_goals go_wp2
          all_goals
            go_roundw
            case rel => exact ⟨j + 1, by go_num, by omega, Lib.hid HN4.out.2.2⟩
            case measure => simp only [intOf]; omega
        · obtain rfl : j = N := by omega
          have HNX := Lib.hid (hr.out.next (by rw [HN.out]; exact Nat.le_refl _))
          clear hr
          go_wp2_with fail
          go_roundw
          case rel => exact ⟨q + 1, by go_num, by omega, HNX⟩
          case measure => simp only [intOf]; omega
    · obtain rfl : q = 10 := by omega
      have HM1 := Lib.hid hr.out
      clear hr
      go_wp2_with fail
      go_loopw [40, 43] (fun s40 s43 wr => ∃ l s : Nat, s40 = .int .i64 (s : Int) ∧ s43 = .int .i64 (l : Int) ∧ l ≤ 10 ∧ 64 * l ≤ s ∧ s ≤ l * 2000000 ∧ Hid (Mk w LF G RW 10 0 wr)) (fun _ s43 _ => 10 - (intOf s43).toNat)
      case atStart => exact ⟨0, 0, rfl, rfl, by omega, by omega, by omega, HM1⟩
      case round =>
        clear HM1
        obtain ⟨l, s, rfl, rfl, hl, hs1, hs2, hr⟩ := hrel
        by_cases hlt : l < 10
        · obtain ⟨B, d, hv⟩ := hr.out.shape HFX.out (l := l) (by omega)
          have HV := Lib.hid hv
          have hq1 : (l : Int) < 10 := by omega
          have hq0 : (0 : Int) ≤ (l : Int) := by omega
          have hnl := HLN.out l hlt
          obtain ⟨N, hN⟩ : ∃ N, nl LF l = N := ⟨_, rfl⟩
          rw [hN] at hv hnl HV
          have ck : wr.cell? ⟨G, l, none⟩ = some (.slice B N d) := (hr.out.look HFX.out hlt).trans (congrArg some HV.out)
          have hX : (⟨G, 0, none⟩ : Addr).add l = ⟨G, l, none⟩ := Arr.add_plain G l 0 |>.trans (by rw [Nat.zero_add])
          have HC : Hid (∀ W, Below wr.heap.size wr W → W.cell? ⟨G, l, none⟩ = some (.slice B N d)) := Lib.hid (fun W hW => ((hr.out.call hW).look HFX.out hlt).trans (congrArg some HV.out))
          have HWI : Hid (∀ W, Below wr.heap.size wr W → Calls Tryd.prog 40 #[.slice B N d, .string (mmT l)] W (fun e w' => e = .returned (.int .i64 ((N + 64 : Nat) : Int)) ∧ Mk w LF G RW 10 0 w' ∧ w'.cell? ⟨G, l, none⟩ = some (.slice B N d))) := Lib.hid (fun W hW => by
            have hM := hr.out.call hW
            obtain ⟨xs, ho, hk⟩ := hM.wide HFX.out hlt HV.out
            refine (wide_calls B N d w.heap.size xs (mmT l) W ho hM.bel.size (by omega)).mono ?_
            rintro e w' ⟨h1, h2, h3⟩
            have hM2 := hk w' h2 h3
            exact ⟨h1, hM2, (hM2.look HFX.out hlt).trans (congrArg some HV.out)⟩)
          have hOM := Lib.hid (HOM.out l hlt)
          have hom := om_size l
          have hcat : ¬ (9223372036854775807 : Nat) < (⟨#[47, 47]⟩ : ByteArray).size + (om l).size := by rw [hom]; decide
          obtain ⟨N6, hN6⟩ : ∃ N6, N + 64 = N6 := ⟨_, rfl⟩
          rw [hN6] at HWI
          clear hv hr hN
          go_wp2_with fail
          go_region_held3 (fun W => W.cell? ⟨G, l, none⟩ = some (.slice B N d)) (first | go_keep | exact HC.out _ B4 | assumption) (first | (go_at_call 39; (with_reducible refine (hOM.out _).mono ?_); rintro e w4 ⟨rfl, b4⟩; have B4 : Below wr.heap.size wr w4 := (Below.refl _ wr).drew.trans (b4.mono (Nat.le_refl _)); clear b4) | (go_at_call 40; (with_reducible refine (HWI.out _ (by first | exact B4 | exact B4.drew)).mono ?_); rintro e w5 ⟨rfl, M5, ck5⟩; have HM5 := Lib.hid M5; clear M5))
          all_goals go_wp2
          refine ⟨?_, ?_⟩
          · (repeat apply Exists.intro)
            refine ⟨?_, rfl⟩
            exact ⟨l + 1, s + N6, by go_num, by go_num, by omega, by omega, by omega, HM5⟩
          · show 10 - ((l : Int) + 1).toNat < 10 - ((l : Nat) : Int).toNat
            omega
        · obtain rfl : l = 10 := by omega
          have HM2 := Lib.hid hr.out
          clear hr
          have HBL := Lib.hid HM2.out.bel
          go_wp2_with fail
          refine (HE.out _ HBL.out).mono ?_
          rintro e wr1 ⟨v, rfl, OW1, C1⟩
          obtain ⟨A_r, c_r, rfl, _, sr⟩ := OW1.shape
          have HM3 := Lib.hid (HM2.out.call C1)
          have HSR := Lib.hid sr
          clear OW1 C1 sr HBL HM2
          go_wp2_with fail
          refine (HG.out _ HM3.out.bel).mono ?_
          rintro e wr2 ⟨v, rfl, OW2, C2⟩
          obtain ⟨A_v, c_v, rfl, _, sv2⟩ := OW2.shape
          have HM4 := Lib.hid (HM3.out.call C2)
          have HSR2 := Lib.hid (HSR.out.below C2)
          have HSV := Lib.hid sv2
          have HSA : Hid (∀ W j, Mk w LF G RW 10 j W → Strs W A_a P.length P) := Lib.hid (fun W j h => by
            have h1 := h.rest (l := 10) (by omega) (by omega)
            rw [HAB.out.1, HAB.out.2.1] at h1
            exact (strs_of h1).1)
          have HSB : Hid (∀ W j, Mk w LF G RW 10 j W → Strs W A_b Q.length Q) := Lib.hid (fun W j h => by
            have h1 := h.rest (l := 11) (by omega) (by omega)
            rw [HAB.out.2.2.1, HAB.out.2.2.2] at h1
            exact (strs_of h1).1)
          clear OW2 C2 sv2 HSR HM3
          go_wp2_with fail
          refine (same_calls A_r A_a P.length P.length c_r c_a P P _ HSR2.out (HSA.out _ _ HM4.out) (by have := HLP.out; omega) (by have := HLP.out; omega) true (by simp)).mono ?_
          rintro e wr3 ⟨rfl, C3⟩
          have HM5 := Lib.hid (HM4.out.call C3)
          have HSV3 := Lib.hid (HSV.out.below C3)
          clear C3 HM4 HSV
          go_wp2_with fail
          refine (same_calls A_v A_b Q.length Q.length c_v c_b Q Q _ HSV3.out (HSB.out _ _ HM5.out) (by have := HLQ.out; omega) (by have := HLQ.out; omega) true (by simp)).mono ?_
          rintro e wr4 ⟨rfl, C4⟩
          have HM6 := Lib.hid (HM5.out.call C4)
          clear C4 HM5 HSV3 HSR2
          have hs640 : (640 : Int) ≤ (s : Int) := by omega
          have hs2' : s ≤ 20000000 := by omega
          clear hs1 hs2
          go_wp2_with fail
          go_loopw [50] (fun s50 wr => ∃ k : Nat, s50 = .int .i64 (k : Int) ∧ k ≤ 10 ∧ Hid (Mk w LF G RW 10 0 wr)) (fun s50 _ => 10 - (intOf s50).toNat)
          case atStart => exact ⟨0, rfl, by omega, HM6⟩
          case round =>
            clear HM6
            obtain ⟨q, rfl, hq, hr⟩ := hrel
            by_cases hlt : q < 10
            · obtain ⟨B, d, hv⟩ := hr.out.shape HFX.out (l := q) (by omega)
              have HV := Lib.hid hv
              have hq1 : (q : Int) < 10 := by omega
              have hq0 : (0 : Int) ≤ (q : Int) := by omega
              have hnl := HLN.out q hlt
              obtain ⟨N, hN⟩ : ∃ N, nl LF q = N := ⟨_, rfl⟩
              rw [hN] at hv hnl HV
              have HN := Lib.hid hN
              have HMQ := Lib.hid hr.out
              have hX : (⟨G, 0, none⟩ : Addr).add q = ⟨G, q, none⟩ := Arr.add_plain G q 0 |>.trans (by rw [Nat.zero_add])
              clear hv hr hN
              go_wp2_with fail
              go_loopw [51] (fun s51 wr => ∃ j : Nat, s51 = .int .i64 (j : Int) ∧ j ≤ N ∧ Hid (Mk w LF G RW 10 0 wr)) (fun s51 _ => N - (intOf s51).toNat)
              case atStart => exact ⟨0, rfl, by omega, HMQ⟩
              case round =>
                clear HMQ
                obtain ⟨j, rfl, hj, hr⟩ := hrel
                have ck : wr.cell? ⟨G, q, none⟩ = some (.slice B N d) := (hr.out.look HFX.out hlt).trans (congrArg some HV.out)
                by_cases hlj : j < N
                · obtain ⟨g, hg, _, cj⟩ := hr.out.read hlt HV.out HN.out hlj
                  subst hg
                  have HMJ := Lib.hid hr.out
                  have HC : Hid (∀ W, Below wr.heap.size wr W → W.cell? ⟨G, q, none⟩ = some (.slice (some ⟨g, 0, none⟩) N d) ∧ W.cell? ⟨g, j, none⟩ = some (.string (mkT q))) := Lib.hid (fun W hW => by
                    refine ⟨((hr.out.call hW).look HFX.out hlt).trans (congrArg some HV.out), ?_⟩
                    obtain ⟨g', e, _, h1⟩ := (hr.out.call hW).read hlt HV.out HN.out hlj
                    injection e with e
                    injection e with e
                    subst e
                    exact h1)
                  have hXj : (⟨g, 0, none⟩ : Addr).add j = ⟨g, j, none⟩ := Arr.add_plain g j 0 |>.trans (by rw [Nat.zero_add])
                  have hOM := Lib.hid (HOM.out q hlt)
                  have hom := om_size q
                  have j0 : (0 : Int) ≤ (j : Int) := by omega
                  have j1 : (j : Int) < (N : Int) := by omega
                  have hcat : ¬ (9223372036854775807 : Nat) < (⟨#[47]⟩ : ByteArray).size + (om q).size := by rw [hom]; decide
                  clear hr
                  go_wp2_with fail
                  go_region_held3 (fun W => W.cell? ⟨G, q, none⟩ = some (.slice (some ⟨g, 0, none⟩) N d) ∧ W.cell? ⟨g, j, none⟩ = some (.string (mkT q))) (first | go_keep | exact HC.out _ B4) ((go_at_call 39; (with_reducible refine (hOM.out _).mono ?_); rintro e w4 ⟨rfl, b4⟩; have B4 : Below wr.heap.size wr w4 := (Below.refl _ wr).drew.trans (b4.mono (Nat.le_refl _)); have HM4 := Lib.hid (HMJ.out.call B4); clear b4))
                  all_goals go_wp2
                  all_goals
                    go_roundw
                    case rel => exact ⟨j + 1, by go_num, by omega, HM4⟩
                    case measure => simp only [intOf]; omega
                · obtain rfl : j = N := by omega
                  have HNX := Lib.hid hr.out
                  clear hr
                  go_wp2_with fail
                  go_roundw
                  case rel => exact ⟨q + 1, by go_num, by omega, HNX⟩
                  case measure => simp only [intOf]; omega
            · obtain rfl : q = 10 := by omega
              have HM7 := Lib.hid hr.out
              clear hr
              go_wp2_with fail
              refine (HRN.out _ HM7.out.bel).mono ?_
              rintro e wz ⟨rfl, CZ⟩
              have HEND := Lib.hid ((HM7.out.call CZ).bel)
              clear CZ
              go_wp2_with fail
              go_ret
              exact ⟨by simp, HEND.out⟩

theorem mthLists_walk (k i m : Int) (A : Option Addr) (n c : Nat) (ss : List ByteArray) (w : World) (_ : (Lit.int .i64 k).wf = true) (_ : (Lit.int .i64 i).wf = true) (_ : (Lit.int .i64 m).wf = true) (hC : Came w A n c ss)
    (h1 : ∀ i : Nat, i < 8 → w.cell? ⟨0, i, none⟩ = some (.int .u32 (Ints I0.list i))) (h2 : ∀ i : Nat, i < 64 → w.cell? ⟨1, i, none⟩ = some (.int .u32 (Ints K0 i)))
    (h3 : ∀ i : Nat, i < 8 → w.cell? ⟨2, i, none⟩ = some (.int .u32 (Ints I0.list i))) (h4 : ∀ i : Nat, i < 64 → w.cell? ⟨3, i, none⟩ = some (.int .u32 (Ints K0 i))) :
    Calls Tryd.prog 13 #[.int .i64 k, .int .i64 i, .int .i64 m, .slice A n c] w fun e w' => e = .returned (.bool true) ∧ Below w.heap.size w w' := by
  obtain ⟨hT, hR⟩ := both h1 h2 h3 h4
  exact mthLists_in k i m A n c ss w hC hT hR
end Go.Proofs.YtcenfedmbicofaaDoor.Mth
