/- mth.Path, mth.Proof, and the document's; MthPath, MthProof: their walks. -/
import Derived.Test.YtcenfedmbicofaaDoorMthProof
set_option linter.unusedVariables false
set_option linter.unusedSimpArgs false
namespace Go.Proofs.YtcenfedmbicofaaDoor.Mth
open Go.RowKit Go.Proofs.YtcenfedmbicofaaDoor.Base Go.Proofs.YtcenfedmbicofaaDoor.ShaPlain Go.Proofs.YtcenfedmbicofaaDoor.ShaDig Go.Proofs.YtcenfedmbicofaaDoor.TreeHash Go.Proofs.YtcenfedmbicofaaDoor.Strs Go.Proofs.YtcenfedmbicofaaDoor.Mem

/-- A list of texts in new memory, and a number. -/
def Pair (xs : List ByteArray) (r : Int) (w : World) (e : Ending) (w' : World) : Prop := ∃ v, e = .returned (.tuple #[v, .int .i64 r]) ∧ Own w' w.heap.size v xs ∧ Below w.heap.size w w'
def pathL (k i : Int) (ss : List ByteArray) : List ByteArray := if i < 0 ∨ (ss.length : Int) ≤ i then [] else path k i.toNat ss
def pathR (i : Int) (n : Nat) : Int := if i < 0 ∨ (n : Int) ≤ i then 81 else 0
def prfL (k m : Int) (ss : List ByteArray) : List ByteArray := if m < 0 ∨ (ss.length : Int) < m ∨ m = 0 then [] else prf k m.toNat ss true
def prfR (m : Int) (n : Nat) : Int := if m < 0 ∨ (n : Int) < m then 80 else 0
theorem sp_log {n d : Nat} (h : 2 ≤ n) (hl : n ≤ 2 ^ (d + 1)) : sp n ≤ 2 ^ d ∧ n - sp n ≤ 2 ^ d := by
  obtain ⟨s1, s2, s3⟩ := sp_spec h
  have h1 : (n - 1).log2 ≤ d := Nat.lt_succ_iff.1 ((Nat.log2_lt (by omega)).2 (by omega))
  have h2 : sp n ≤ 2 ^ d := Nat.pow_le_pow_right (by omega) h1
  exact ⟨h2, by omega⟩
theorem path_log (k : Int) : ∀ (d i : Nat) (l : List ByteArray), l.length ≤ 2 ^ d → (path k i l).length ≤ d := fun d => by
  induction d with
  | zero =>
    intro i l hl
    rw [path_short k i l (by rw [Nat.pow_zero] at hl; omega)]
    exact Nat.zero_le _
  | succ d ih =>
    intro i l hl
    by_cases h : 2 ≤ l.length
    · obtain ⟨s1, s2, s3⟩ := sp_spec h
      have hs := sp_log h hl
      by_cases hi : i < sp l.length
      · rw [path_left k i l h hi, List.length_append]
        have := ih i (l.take (sp l.length)) (by rw [List.length_take]; omega)
        simp only [List.length_cons, List.length_nil]
        omega
      · rw [path_right k i l h hi, List.length_append]
        have := ih (i - sp l.length) (l.drop (sp l.length)) (by rw [List.length_drop]; omega)
        simp only [List.length_cons, List.length_nil]
        omega
    · rw [path_short k i l h]
      exact Nat.zero_le _
theorem prf_log (k : Int) : ∀ (d m : Nat) (l : List ByteArray) (b : Bool), l.length ≤ 2 ^ d → (prf k m l b).length ≤ d + 1 := fun d => by
  induction d with
  | zero =>
    intro m l b hl
    rw [Nat.pow_zero] at hl
    by_cases h0 : m = l.length
    · cases b
      · rw [prf_one k m l h0]; exact Nat.le_refl _
      · rw [prf_all k m l h0]; exact Nat.zero_le _
    · rw [prf, if_neg h0, dif_neg (by omega)]
      exact Nat.zero_le _
  | succ d ih =>
    intro m l b hl
    by_cases h0 : m = l.length
    · cases b
      · rw [prf_one k m l h0]; simp
      · rw [prf_all k m l h0]; exact Nat.zero_le _
    · by_cases h : 2 ≤ l.length
      · obtain ⟨s1, s2, s3⟩ := sp_spec h
        have hs := sp_log h hl
        by_cases hi : m ≤ sp l.length
        · rw [prf_left k m l b h h0 hi, List.length_append]
          have := ih m (l.take (sp l.length)) b (by rw [List.length_take]; omega)
          simp only [List.length_cons, List.length_nil]
          omega
        · rw [prf_right k m l b h h0 hi, List.length_append]
          have := ih (m - sp l.length) (l.drop (sp l.length)) false (by rw [List.length_drop]; omega)
          simp only [List.length_cons, List.length_nil]
          omega
      · rw [prf, if_neg h0, dif_neg h]
        exact Nat.zero_le _
theorem pathL_log (k i : Int) (ss : List ByteArray) (h : ss.length ≤ 8796093022208) : (pathL k i ss).length ≤ 43 := by
  unfold pathL
  split
  · exact Nat.zero_le _
  · exact path_log k 43 _ _ (by rw [show (2 : Nat) ^ 43 = 8796093022208 by decide]; exact h)
theorem prfL_log (k m : Int) (ss : List ByteArray) (h : ss.length ≤ 8796093022208) : (prfL k m ss).length ≤ 44 := by
  unfold prfL
  split
  · exact Nat.zero_le _
  · exact prf_log k 43 _ _ _ (by rw [show (2 : Nat) ^ 43 = 8796093022208 by decide]; exact h)
theorem pathL_len (k i : Int) (ss : List ByteArray) : (pathL k i ss).length ≤ ss.length := by
  unfold pathL
  split
  · exact Nat.zero_le _
  · exact path_len k _ _ _ (Nat.le_refl _)
theorem prfL_len (k m : Int) (ss : List ByteArray) : (prfL k m ss).length ≤ ss.length := by
  unfold prfL
  split
  · exact Nat.zero_le _
  · rename_i h
    exact prf_len k _ _ _ _ (Nat.le_refl _) (by omega)
theorem rooted_calls (k : Int) (w : World) : Calls Tryd.prog 52 #[.int .i64 k] w (fun e w' => e = .returned (jn w.heap.size) ∧ w.alloc (.cells #[.int .i64 k] 3) = w') := by
  go_enter Tryd.func52, Tryd.ntmps52
  go_wp2
  go_ret
  exact ⟨rfl, rfl⟩
set_option maxHeartbeats 2000000 in
theorem mPath_calls (k i : Int) (A : Option Addr) (n c : Nat) (ss : List ByteArray) (w : World) (hs : Strs w A n ss) (hc : n ≤ c) (hn : n ≤ 8796093022207) (ha : All ss) (hT : Tab w) :
    Calls Tryd.prog 28 #[.int .i64 k, .int .i64 i, .slice A n c] w (Pair (pathL k i ss) (pathR i n) w) := by
  have hl := hs.len
  by_cases hb : i < 0 ∨ (n : Int) ≤ i
  · have HL : Hid (pathL k i ss = []) := Lib.hid (by rw [pathL, hl, if_pos hb])
    have HC : Hid (pathR i n = 81) := Lib.hid (by rw [pathR, if_pos hb])
    have HO := Lib.hid (Own.nil w w.heap.size)
    clear ha hT hl hs
    rcases hb with h | h
    all_goals
      go_enter Tryd.func28, Tryd.ntmps28
      go_wp2
      go_ret2
      exact ⟨_, by rw [HC.out]; rfl, by rw [HL.out]; exact HO.out, Below.refl _ _⟩
  · obtain ⟨j, rfl⟩ := Int.eq_ofNat_of_zero_le (show 0 ≤ i by omega)
    have HP : Hid (Calls Tryd.prog 51 #[.func (.func 66) #[] #[.pointer (some ⟨w.heap.size, 0, none⟩)], .int .i64 (j : Int), .slice A n c] (w.alloc (.cells #[.int .i64 k] 3)) (Lists (path k j ss) (w.alloc (.cells #[.int .i64 k] 3)).heap.size (w.alloc (.cells #[.int .i64 k] 3)))) := Lib.hid (mpath_calls k w.heap.size n j A n c ss _ (Nat.le_refl _) (by omega) ((Row.new w _ _).cell 0) (hs.alloc _) hc hn ha (hT.below ((Below.refl w.heap.size w).alloc (Nat.le_refl _) _)))
    have HL : Hid (pathL k (j : Int) ss = path k j ss) := Lib.hid (by rw [pathL, hl, if_neg hb, Int.toNat_natCast])
    have HC : Hid (pathR (j : Int) n = 0) := Lib.hid (by rw [pathR, if_neg hb])
    have HB : Hid (Below w.heap.size w (w.alloc (.cells #[.int .i64 k] 3))) := Lib.hid ((Below.refl w.heap.size w).alloc (Nat.le_refl _) _)
    have hlt1 : (j : Int) < (n : Int) := by omega
    clear ha hT hl hs
    generalize path k j ss = ps at *
    go_enter Tryd.func28, Tryd.ntmps28
    go_wp2_with fail
    refine (rooted_calls k w).mono ?_; rintro e _ ⟨rfl, rfl⟩
    go_wp2_with fail
    refine HP.out.mono ?_; rintro e w2 ⟨v, rfl, O2, C2⟩
    have HF : Hid (Own w2 w.heap.size v ps ∧ Below w.heap.size w w2) := Lib.hid ⟨own_down O2 HB.out.size, HB.out.trans (C2.mono HB.out.size)⟩
    clear O2 C2
    go_wp2
    go_ret2
    exact ⟨v, by rw [HC.out]; rfl, by rw [HL.out]; exact HF.out.1, HF.out.2⟩
set_option maxHeartbeats 2000000 in
theorem rPath_calls (k i : Int) (A : Option Addr) (n c : Nat) (ss : List ByteArray) (w : World) (hs : Strs w A n ss) (hc : n ≤ c) (hn : n ≤ 8796093022207) (ha : All ss) (hT : RTab w) :
    Calls Tryd.prog 29 #[.int .i64 k, .int .i64 i, .slice A n c] w (Pair (pathL k i ss) (pathR i n) w) := by
  have hl := hs.len
  by_cases hb : i < 0 ∨ (n : Int) ≤ i
  · have HL : Hid (pathL k i ss = []) := Lib.hid (by rw [pathL, hl, if_pos hb])
    have HC : Hid (pathR i n = 81) := Lib.hid (by rw [pathR, if_pos hb])
    have HO := Lib.hid (Own.nil w w.heap.size)
    clear ha hT hl hs
    rcases hb with h | h
    all_goals
      go_enter Tryd.func29, Tryd.ntmps29
      go_wp2
      go_ret2
      exact ⟨_, by rw [HC.out]; rfl, by rw [HL.out]; exact HO.out, Below.refl _ _⟩
  · obtain ⟨j, rfl⟩ := Int.eq_ofNat_of_zero_le (show 0 ≤ i by omega)
    have HP : Hid (Calls Tryd.prog 53 #[.int .i64 k, .int .i64 (j : Int), .slice A n c] w (Lists (path k j ss) w.heap.size w)) := Lib.hid (rpath_calls k n j A n c ss w (Nat.le_refl _) (by omega) hs hc hn ha hT)
    have HL : Hid (pathL k (j : Int) ss = path k j ss) := Lib.hid (by rw [pathL, hl, if_neg hb, Int.toNat_natCast])
    have HC : Hid (pathR (j : Int) n = 0) := Lib.hid (by rw [pathR, if_neg hb])
    have HB : Hid (Below w.heap.size w w) := Lib.hid (Below.refl _ _)
    have hlt1 : (j : Int) < (n : Int) := by omega
    clear ha hT hl hs
    generalize path k j ss = ps at *
    go_enter Tryd.func29, Tryd.ntmps29
    go_wp2_with fail
    refine HP.out.mono ?_; rintro e w2 ⟨v, rfl, O2, C2⟩
    have HF : Hid (Own w2 w.heap.size v ps ∧ Below w.heap.size w w2) := Lib.hid ⟨own_down O2 HB.out.size, HB.out.trans (C2.mono HB.out.size)⟩
    clear O2 C2
    go_wp2
    go_ret2
    exact ⟨v, by rw [HC.out]; rfl, by rw [HL.out]; exact HF.out.1, HF.out.2⟩
set_option maxHeartbeats 2000000 in
theorem mProof_calls (k i : Int) (A : Option Addr) (n c : Nat) (ss : List ByteArray) (w : World) (hs : Strs w A n ss) (hc : n ≤ c) (hn : n ≤ 8796093022207) (ha : All ss) (hT : Tab w) :
    Calls Tryd.prog 36 #[.int .i64 k, .int .i64 i, .slice A n c] w (Pair (prfL k i ss) (prfR i n) w) := by
  have hl := hs.len
  by_cases hb : i < 0 ∨ (n : Int) < i
  · have HL : Hid (prfL k i ss = []) := Lib.hid (by rw [prfL, hl, if_pos (by omega)])
    have HC : Hid (prfR i n = 80) := Lib.hid (by rw [prfR, if_pos hb])
    have HO := Lib.hid (Own.nil w w.heap.size)
    clear ha hT hl hs
    rcases hb with h | h
    all_goals
      go_enter Tryd.func36, Tryd.ntmps36
      go_wp2
      go_ret2
      exact ⟨_, by rw [HC.out]; rfl, by rw [HL.out]; exact HO.out, Below.refl _ _⟩
  · obtain ⟨j, rfl⟩ := Int.eq_ofNat_of_zero_le (show 0 ≤ i by omega)
    by_cases h0 : j = 0
    · have h0e : ((j : Int) == 0) = true := by rw [beq_iff_eq]; omega
      have HL : Hid (prfL k (j : Int) ss = []) := Lib.hid (by rw [prfL, hl, if_pos (by omega)])
      have HC : Hid (prfR (j : Int) n = 0) := Lib.hid (by rw [prfR, if_neg hb])
      have HO := Lib.hid (Own.nil w w.heap.size)
      clear ha hT hl hs
      go_enter Tryd.func36, Tryd.ntmps36
      go_wp2
      go_ret2
      exact ⟨_, by rw [HC.out]; rfl, by rw [HL.out]; exact HO.out, Below.refl _ _⟩
    · have h0e : ((j : Int) == 0) = false := by rw [beq_eq_false_iff_ne]; omega
      by_cases hjn : j = n
      · have hje : ((j : Int) == (n : Int)) = true := by rw [beq_iff_eq]; omega
        have HL : Hid (prfL k (j : Int) ss = []) := Lib.hid (by rw [prfL, hl, if_neg (by omega), Int.toNat_natCast, prf_all k j ss (by omega)])
        have HC : Hid (prfR (j : Int) n = 0) := Lib.hid (by rw [prfR, if_neg hb])
        have HO := Lib.hid (Own.nil w w.heap.size)
        clear ha hT hl hs
        go_enter Tryd.func36, Tryd.ntmps36
        go_wp2
        go_ret2
        exact ⟨_, by rw [HC.out]; rfl, by rw [HL.out]; exact HO.out, Below.refl _ _⟩
      · have hje : ((j : Int) == (n : Int)) = false := by rw [beq_eq_false_iff_ne]; omega
        have HP : Hid (Calls Tryd.prog 57 #[.func (.func 66) #[] #[.pointer (some ⟨w.heap.size, 0, none⟩)], .int .i64 (j : Int), .slice A n c, .bool true] (w.alloc (.cells #[.int .i64 k] 3)) (Lists (prf k j ss true) (w.alloc (.cells #[.int .i64 k] 3)).heap.size (w.alloc (.cells #[.int .i64 k] 3)))) := Lib.hid (msub_calls k w.heap.size n j A n c ss true _ (Nat.le_refl _) (by omega) (by omega) ((Row.new w _ _).cell 0) (hs.alloc _) hc hn ha (hT.below ((Below.refl w.heap.size w).alloc (Nat.le_refl _) _)))
        have HL : Hid (prfL k (j : Int) ss = prf k j ss true) := Lib.hid (by rw [prfL, hl, if_neg (by omega), Int.toNat_natCast])
        have HC : Hid (prfR (j : Int) n = 0) := Lib.hid (by rw [prfR, if_neg hb])
        have HB : Hid (Below w.heap.size w (w.alloc (.cells #[.int .i64 k] 3))) := Lib.hid ((Below.refl w.heap.size w).alloc (Nat.le_refl _) _)
        clear ha hT hl hs
        generalize prf k j ss true = ps at *
        go_enter Tryd.func36, Tryd.ntmps36
        go_wp2_with fail
        refine (rooted_calls k w).mono ?_; rintro e _ ⟨rfl, rfl⟩
        go_wp2_with fail
        refine HP.out.mono ?_; rintro e w2 ⟨v, rfl, O2, C2⟩
        have HF : Hid (Own w2 w.heap.size v ps ∧ Below w.heap.size w w2) := Lib.hid ⟨own_down O2 HB.out.size, HB.out.trans (C2.mono HB.out.size)⟩
        clear O2 C2
        go_wp2
        go_ret2
        exact ⟨v, by rw [HC.out]; rfl, by rw [HL.out]; exact HF.out.1, HF.out.2⟩
set_option maxHeartbeats 2000000 in
theorem rProof_calls (k i : Int) (A : Option Addr) (n c : Nat) (ss : List ByteArray) (w : World) (hs : Strs w A n ss) (hc : n ≤ c) (hn : n ≤ 8796093022207) (ha : All ss) (hT : RTab w) :
    Calls Tryd.prog 37 #[.int .i64 k, .int .i64 i, .slice A n c] w (Pair (prfL k i ss) (prfR i n) w) := by
  have hl := hs.len
  by_cases hb : i < 0 ∨ (n : Int) < i
  · have HL : Hid (prfL k i ss = []) := Lib.hid (by rw [prfL, hl, if_pos (by omega)])
    have HC : Hid (prfR i n = 80) := Lib.hid (by rw [prfR, if_pos hb])
    have HO := Lib.hid (Own.nil w w.heap.size)
    clear ha hT hl hs
    rcases hb with h | h
    all_goals
      go_enter Tryd.func37, Tryd.ntmps37
      go_wp2
      go_ret2
      exact ⟨_, by rw [HC.out]; rfl, by rw [HL.out]; exact HO.out, Below.refl _ _⟩
  · obtain ⟨j, rfl⟩ := Int.eq_ofNat_of_zero_le (show 0 ≤ i by omega)
    by_cases h0 : j = 0
    · have h0e : ((j : Int) == 0) = true := by rw [beq_iff_eq]; omega
      have HL : Hid (prfL k (j : Int) ss = []) := Lib.hid (by rw [prfL, hl, if_pos (by omega)])
      have HC : Hid (prfR (j : Int) n = 0) := Lib.hid (by rw [prfR, if_neg hb])
      have HO := Lib.hid (Own.nil w w.heap.size)
      clear ha hT hl hs
      go_enter Tryd.func37, Tryd.ntmps37
      go_wp2
      go_ret2
      exact ⟨_, by rw [HC.out]; rfl, by rw [HL.out]; exact HO.out, Below.refl _ _⟩
    · have h0e : ((j : Int) == 0) = false := by rw [beq_eq_false_iff_ne]; omega
      have HP : Hid (Calls Tryd.prog 58 #[.int .i64 k, .int .i64 (j : Int), .slice A n c, .bool true] w (Lists (prf k j ss true) w.heap.size w)) := Lib.hid (rsub_calls k n j A n c ss true w (Nat.le_refl _) (by omega) (by omega) hs hc hn ha hT)
      have HL : Hid (prfL k (j : Int) ss = prf k j ss true) := Lib.hid (by rw [prfL, hl, if_neg (by omega), Int.toNat_natCast])
      have HC : Hid (prfR (j : Int) n = 0) := Lib.hid (by rw [prfR, if_neg hb])
      have HB : Hid (Below w.heap.size w w) := Lib.hid (Below.refl _ _)
      clear ha hT hl hs
      generalize prf k j ss true = ps at *
      go_enter Tryd.func37, Tryd.ntmps37
      go_wp2_with fail
      refine HP.out.mono ?_; rintro e w2 ⟨v, rfl, O2, C2⟩
      have HF : Hid (Own w2 w.heap.size v ps ∧ Below w.heap.size w w2) := Lib.hid ⟨own_down O2 HB.out.size, HB.out.trans (C2.mono HB.out.size)⟩
      clear O2 C2
      go_wp2
      go_ret2
      exact ⟨v, by rw [HC.out]; rfl, by rw [HL.out]; exact HF.out.1, HF.out.2⟩
set_option maxHeartbeats 2000000 in
theorem mthPath_in (k i : Int) (A : Option Addr) (n c : Nat) (ss : List ByteArray) (w : World) (hC : Came w A n c ss) (hT : Tab w) (hR : RTab w) :
    Calls Tryd.prog 7 #[.int .i64 k, .int .i64 i, .slice A n c] w (AllTrue w) := by
  have HTW := Lib.hid (twin_calls A n c ss w hC)
  obtain ⟨hS, hnc, hcb, hsz⟩ := hC
  replace hsz := All.of hsz
  have HL := Lib.hid hS.len
  have HM : Hid (∀ (B : Option Addr) (d : Nat) (W : World), n ≤ d → Below w.heap.size w W → Strs W B n ss → Calls Tryd.prog 28 #[.int .i64 k, .int .i64 i, .slice B n d] W (Pair (pathL k i ss) (pathR i n) W)) :=
    Lib.hid fun B d W hd hb hs => mPath_calls k i B n d ss W hs hd (by omega) hsz (hT.below hb)
  have HRR : Hid (∀ (W : World), Below w.heap.size w W → Calls Tryd.prog 29 #[.int .i64 k, .int .i64 i, .slice A n c] W (Pair (pathL k i ss) (pathR i n) W)) :=
    Lib.hid fun W hb => rPath_calls k i A n c ss W (hS.below hb) hnc (by omega) hsz (hR.below hb)
  have HS := Lib.hid hS
  have hpl := pathL_len k i ss
  rw [HL.out] at hpl
  generalize pathL k i ss = ps at *
  generalize pathR i n = code at *
  clear hT hR hsz hS
  go_enter Tryd.func7, Tryd.ntmps7
  go_wp2_with fail
  refine HTW.out.mono ?_; rintro e w1 ⟨g, d, rfl, hd, hg, ho, B1⟩
  rw [HL.out] at hd ho ⊢
  have hz1 := B1.size
  have T1 := own_strs ho (len_snoc ss mark HL.out)
  have T2 := T1.take n (by omega)
  rw [List.take_left' HL.out] at T2
  clear ho
  go_wp2_with fail
  refine (HM.out _ d w1 (by omega) B1 T2).mono ?_; rintro e w2 ⟨v, rfl, O2, C2⟩
  obtain ⟨A2, c2, rfl, hc2, P2⟩ := O2.shape
  have T3 := T1.below C2
  have B2 := B1.trans (C2.mono hz1)
  have hz2 := B2.size
  clear T1 T2 C2 B1 O2
  go_wp2_with fail
  refine (HRR.out w2 B2).mono ?_; rintro e w3 ⟨v, rfl, O3, C3⟩
  obtain ⟨A3, c3, rfl, hc3, Q3⟩ := O3.shape
  have T4 := T3.below C3
  have P3 := P2.below C3
  have B3 := B2.trans (C3.mono hz2)
  have hz3 := B3.size
  clear T3 C3 B2 O3 P2
  go_wp2_with fail
  refine (kept_calls A g n d c ss w3 T4 (HS.out.below B3) (by omega) (by omega)).mono ?_; rintro e w4 ⟨rfl, C4⟩
  have P4 := P3.below C4
  have Q4 := Q3.below C4
  have B4 := B3.trans (C4.mono hz3)
  have hz4 := B4.size
  clear T4 C4 B3 P3 Q3
  go_wp2_with fail
  refine (same_calls A2 A3 ps.length ps.length c2 c3 ps ps w4 P4 Q4 (by omega) (by omega) true (by simp)).mono ?_; rintro e w5 ⟨rfl, C5⟩
  have B5 := B4.trans (C5.mono hz4)
  clear P4 Q4 C5 B4
  go_wp2
  go_ret
  exact ⟨by simp, B5⟩
theorem mthPath_walk (k i : Int) (A : Option Addr) (n c : Nat) (ss : List ByteArray) (w : World) (_ : (Lit.int .i64 k).wf = true) (_ : (Lit.int .i64 i).wf = true) (hC : Came w A n c ss) (h1 : ∀ i : Nat, i < 8 → w.cell? ⟨0, i, none⟩ = some (.int .u32 (Ints I0.list i))) (h2 : ∀ i : Nat, i < 64 → w.cell? ⟨1, i, none⟩ = some (.int .u32 (Ints K0 i)))
    (h3 : ∀ i : Nat, i < 8 → w.cell? ⟨2, i, none⟩ = some (.int .u32 (Ints I0.list i))) (h4 : ∀ i : Nat, i < 64 → w.cell? ⟨3, i, none⟩ = some (.int .u32 (Ints K0 i))) :
    Calls Tryd.prog 7 #[.int .i64 k, .int .i64 i, .slice A n c] w fun e w' => e = .returned (.bool true) ∧ Below w.heap.size w w' := by
  obtain ⟨hT, hR⟩ := both h1 h2 h3 h4
  exact mthPath_in k i A n c ss w hC hT hR
set_option maxHeartbeats 2000000 in
theorem mthProof_in (k i : Int) (A : Option Addr) (n c : Nat) (ss : List ByteArray) (w : World) (hC : Came w A n c ss) (hT : Tab w) (hR : RTab w) :
    Calls Tryd.prog 11 #[.int .i64 k, .int .i64 i, .slice A n c] w (AllTrue w) := by
  have HTW := Lib.hid (twin_calls A n c ss w hC)
  obtain ⟨hS, hnc, hcb, hsz⟩ := hC
  replace hsz := All.of hsz
  have HL := Lib.hid hS.len
  have HM : Hid (∀ (B : Option Addr) (d : Nat) (W : World), n ≤ d → Below w.heap.size w W → Strs W B n ss → Calls Tryd.prog 36 #[.int .i64 k, .int .i64 i, .slice B n d] W (Pair (prfL k i ss) (prfR i n) W)) :=
    Lib.hid fun B d W hd hb hs => mProof_calls k i B n d ss W hs hd (by omega) hsz (hT.below hb)
  have HRR : Hid (∀ (W : World), Below w.heap.size w W → Calls Tryd.prog 37 #[.int .i64 k, .int .i64 i, .slice A n c] W (Pair (prfL k i ss) (prfR i n) W)) :=
    Lib.hid fun W hb => rProof_calls k i A n c ss W (hS.below hb) hnc (by omega) hsz (hR.below hb)
  have HS := Lib.hid hS
  have hpl := prfL_len k i ss
  rw [HL.out] at hpl
  generalize prfL k i ss = ps at *
  generalize prfR i n = code at *
  clear hT hR hsz hS
  go_enter Tryd.func11, Tryd.ntmps11
  go_wp2_with fail
  refine HTW.out.mono ?_; rintro e w1 ⟨g, d, rfl, hd, hg, ho, B1⟩
  rw [HL.out] at hd ho ⊢
  have hz1 := B1.size
  have T1 := own_strs ho (len_snoc ss mark HL.out)
  have T2 := T1.take n (by omega)
  rw [List.take_left' HL.out] at T2
  clear ho
  go_wp2_with fail
  refine (HM.out _ d w1 (by omega) B1 T2).mono ?_; rintro e w2 ⟨v, rfl, O2, C2⟩
  obtain ⟨A2, c2, rfl, hc2, P2⟩ := O2.shape
  have T3 := T1.below C2
  have B2 := B1.trans (C2.mono hz1)
  have hz2 := B2.size
  clear T1 T2 C2 B1 O2
  go_wp2_with fail
  refine (HRR.out w2 B2).mono ?_; rintro e w3 ⟨v, rfl, O3, C3⟩
  obtain ⟨A3, c3, rfl, hc3, Q3⟩ := O3.shape
  have T4 := T3.below C3
  have P3 := P2.below C3
  have B3 := B2.trans (C3.mono hz2)
  have hz3 := B3.size
  clear T3 C3 B2 O3 P2
  go_wp2_with fail
  refine (kept_calls A g n d c ss w3 T4 (HS.out.below B3) (by omega) (by omega)).mono ?_; rintro e w4 ⟨rfl, C4⟩
  have P4 := P3.below C4
  have Q4 := Q3.below C4
  have B4 := B3.trans (C4.mono hz3)
  have hz4 := B4.size
  clear T4 C4 B3 P3 Q3
  go_wp2_with fail
  refine (same_calls A2 A3 ps.length ps.length c2 c3 ps ps w4 P4 Q4 (by omega) (by omega) true (by simp)).mono ?_; rintro e w5 ⟨rfl, C5⟩
  have B5 := B4.trans (C5.mono hz4)
  clear P4 Q4 C5 B4
  go_wp2
  go_ret
  exact ⟨by simp, B5⟩
theorem mthProof_walk (k i : Int) (A : Option Addr) (n c : Nat) (ss : List ByteArray) (w : World) (_ : (Lit.int .i64 k).wf = true) (_ : (Lit.int .i64 i).wf = true) (hC : Came w A n c ss) (h1 : ∀ i : Nat, i < 8 → w.cell? ⟨0, i, none⟩ = some (.int .u32 (Ints I0.list i))) (h2 : ∀ i : Nat, i < 64 → w.cell? ⟨1, i, none⟩ = some (.int .u32 (Ints K0 i)))
    (h3 : ∀ i : Nat, i < 8 → w.cell? ⟨2, i, none⟩ = some (.int .u32 (Ints I0.list i))) (h4 : ∀ i : Nat, i < 64 → w.cell? ⟨3, i, none⟩ = some (.int .u32 (Ints K0 i))) :
    Calls Tryd.prog 11 #[.int .i64 k, .int .i64 i, .slice A n c] w fun e w' => e = .returned (.bool true) ∧ Below w.heap.size w w' := by
  obtain ⟨hT, hR⟩ := both h1 h2 h3 h4
  exact mthProof_in k i A n c ss w hC hT hR
end Go.Proofs.YtcenfedmbicofaaDoor.Mth
