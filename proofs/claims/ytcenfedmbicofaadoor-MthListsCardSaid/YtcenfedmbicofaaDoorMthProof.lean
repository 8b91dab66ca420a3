/- mth.sub, Proof, Path, and the document's: their walks. -/
import Derived.Test.YtcenfedmbicofaaDoorMthPath
set_option linter.unusedVariables false
set_option linter.unusedSimpArgs false
namespace Go.Proofs.YtcenfedmbicofaaDoor.Mth
open Go.RowKit Go.Proofs.YtcenfedmbicofaaDoor.Base Go.Proofs.YtcenfedmbicofaaDoor.ShaPlain Go.Proofs.YtcenfedmbicofaaDoor.ShaDig Go.Proofs.YtcenfedmbicofaaDoor.TreeHash Go.Proofs.YtcenfedmbicofaaDoor.Strs Go.Proofs.YtcenfedmbicofaaDoor.Mem

/-- The consistency proof from the first m leaves. -/
def prf (k : Int) (m : Nat) (l : List ByteArray) (whole : Bool) : List ByteArray :=
  if m = l.length then (if whole then [] else [root k l])
  else if h : 2 ≤ l.length then
    if m ≤ sp l.length then prf k m (l.take (sp l.length)) whole ++ [root k (l.drop (sp l.length))]
    else prf k (m - sp l.length) (l.drop (sp l.length)) false ++ [root k (l.take (sp l.length))]
  else []
termination_by l.length
decreasing_by
  · have := sp_spec h; rw [List.length_take]; omega
  · have := sp_spec h; rw [List.length_drop]; omega
theorem prf_all (k : Int) (m : Nat) (l : List ByteArray) (h : m = l.length) : prf k m l true = [] := by rw [prf, if_pos h]; rfl
theorem prf_one (k : Int) (m : Nat) (l : List ByteArray) (h : m = l.length) : prf k m l false = [root k l] := by rw [prf, if_pos h]; rfl
theorem prf_left (k : Int) (m : Nat) (l : List ByteArray) (b : Bool) (h : 2 ≤ l.length) (h0 : m ≠ l.length) (hi : m ≤ sp l.length) : prf k m l b = prf k m (l.take (sp l.length)) b ++ [root k (l.drop (sp l.length))] := by
  conv => lhs; rw [prf]
  rw [if_neg h0, dif_pos h, if_pos hi]
theorem prf_right (k : Int) (m : Nat) (l : List ByteArray) (b : Bool) (h : 2 ≤ l.length) (h0 : m ≠ l.length) (hi : ¬ m ≤ sp l.length) : prf k m l b = prf k (m - sp l.length) (l.drop (sp l.length)) false ++ [root k (l.take (sp l.length))] := by
  conv => lhs; rw [prf]
  rw [if_neg h0, dif_pos h, if_neg hi]
theorem prf_len (k : Int) (q : Nat) : ∀ (m : Nat) (l : List ByteArray) (b : Bool), l.length ≤ q → 1 ≤ l.length → (prf k m l b).length ≤ l.length := by
  induction q with
  | zero => intro m l b hl h1; omega
  | succ q ih =>
    intro m l b hl h1
    by_cases h0 : m = l.length
    · cases b
      · rw [prf_one k m l h0]; exact h1
      · rw [prf_all k m l h0]; exact Nat.zero_le _
    · by_cases h : 2 ≤ l.length
      · obtain ⟨s1, s2, s3⟩ := sp_spec h
        by_cases hi : m ≤ sp l.length
        · rw [prf_left k m l b h h0 hi, List.length_append]
          have := ih m (l.take (sp l.length)) b (by rw [List.length_take]; omega) (by rw [List.length_take]; omega)
          rw [List.length_take] at this
          simp; omega
        · rw [prf_right k m l b h h0 hi, List.length_append]
          have := ih (m - sp l.length) (l.drop (sp l.length)) false (by rw [List.length_drop]; omega) (by rw [List.length_drop]; omega)
          rw [List.length_drop] at this
          simp; omega
      · rw [prf, if_neg h0, dif_neg h]; exact Nat.zero_le _
set_option maxHeartbeats 4000000 in
theorem msub_calls (k : Int) (g : Nat) (q : Nat) : ∀ (m : Nat) (A : Option Addr) (n c : Nat) (ss : List ByteArray) (b : Bool) (w : World), n ≤ q → 1 ≤ m → m ≤ n → w.cell? ⟨g, 0, none⟩ = some (.int .i64 k) → Strs w A n ss → n ≤ c → n ≤ 8796093022207 → All ss → Tab w →
    Calls Tryd.prog 57 #[.func (.func 66) #[] #[.pointer (some ⟨g, 0, none⟩)], .int .i64 (m : Int), .slice A n c, .bool b] w (Lists (prf k m ss b) w.heap.size w) := by
  induction q with
  | zero => intro m A n c ss b w hq h1 hm; omega
  | succ q ih =>
    intro m A n c ss b w hq h1 hm hg hs hc hn ha hT
    have hl := hs.len
    have hgl := World.block_lt_of_cell? w _ hg
    by_cases h0 : m = n
    · subst h0
      have heq : ((m : Int) == (m : Int)) = true := by simp
      cases b with
      | true =>
        rw [prf_all k m ss hl.symm]
        have HF := Lib.hid (Own.nil w w.heap.size)
        clear hs ha hT ih hg
        go_enter Tryd.func57, Tryd.ntmps57
        go_wp2
        go_ret
        exact ⟨_, rfl, HF.out, Below.refl _ _⟩
      | false =>
        rw [prf_one k m ss hl.symm]
        have HJ := Lib.hid (joiner_calls k g w.heap.size (.slice none 0 0) [] A m c ss w hg (Own.nil w w.heap.size) (Nat.le_refl _) (by simp) hs (by omega) hc ha hT)
        clear hs ha hT ih hg
        go_enter Tryd.func57, Tryd.ntmps57
        go_wp2_with fail
        refine HJ.out.mono ?_; rintro e w3 ⟨v3, rfl, O3, C3⟩
        have HF : Hid (Own w3 w.heap.size v3 [root k ss] ∧ Below w.heap.size w w3) := Lib.hid ⟨O3, C3⟩
        clear O3 C3
        go_wp2
        go_ret
        exact ⟨v3, rfl, HF.out⟩
    · have h2 : 2 ≤ n := by omega
      have hne : ((m : Int) == (n : Int)) = false := by rw [beq_eq_false_iff_ne]; omega
      obtain ⟨s1, s2, s3⟩ := sp_spec h2
      have HH := Lib.hid (halves_calls A n c h2 hc (by omega) w)
      have HG : Hid (∀ W, Below w.heap.size w W → W.cell? ⟨g, 0, none⟩ = some (.int .i64 k)) := Lib.hid fun W hb => (hb.cell (p := ⟨g, 0, none⟩) hgl).trans hg
      by_cases hlt : m ≤ sp n
      · have hpt := prf_left k m ss b (by omega) (by rw [hl]; exact h0) (by rw [hl]; exact hlt)
        rw [hl] at hpt
        rw [hpt]
        have HP : Hid (∀ W, Below w.heap.size w W → Calls Tryd.prog 57 #[.func (.func 66) #[] #[.pointer (some ⟨g, 0, none⟩)], .int .i64 ((m : Int)), .slice A (sp n) (sp n), .bool b] W (Lists (prf k (m) (ss.take (sp n)) b) W.heap.size W)) :=
          Lib.hid fun W hb => ih m A (sp n) (sp n) _ b W (by omega) (by omega) (by omega) (HG.out W hb) ((hs.below hb).take _ (by omega)) (Nat.le_refl _) (by omega) (ha.take _) (hT.below hb)
        have hpl := prf_len k (sp n) (m) (ss.take (sp n)) b (by rw [List.length_take]; omega) (by rw [List.length_take]; omega)
        rw [List.length_take, hl, Nat.min_eq_left (by omega)] at hpl
        have HJ : Hid (∀ W B v, Below w.heap.size w W → Own W B v (prf k (m) (ss.take (sp n)) b) → B ≤ W.heap.size → Calls Tryd.prog 66 #[v, .slice (cutA A (sp n) n) (n - sp n) (n - sp n), .pointer (some ⟨g, 0, none⟩)] W (Lists (prf k (m) (ss.take (sp n)) b ++ [root k (ss.drop (sp n))]) B W)) :=
          Lib.hid fun W B v hb ho hB => joiner_calls k g B v _ (cutA A (sp n) n) (n - sp n) (n - sp n) _ W (HG.out W hb) ho hB (by omega) ((hs.below hb).cut_all _ n (by omega) (Nat.le_refl _)) (by omega) (Nat.le_refl _) (ha.drop _) (hT.below hb)
        generalize prf k (m) (ss.take (sp n)) b = ps at *
        generalize root k (ss.drop (sp n)) = r at *
        generalize sp n = p at *
        clear hs ha hT ih hg hpt hl hpl
        have hlt' : (m : Int) ≤ (p : Int) := by omega
        go_enter Tryd.func57, Tryd.ntmps57
        go_wp2_with fail
        refine HH.out.mono ?_; rintro e w1 ⟨rfl, B1⟩
        have q1 := B1.size
        go_wp2_with fail
        refine (HP.out _ B1).mono ?_; rintro e w2 ⟨v, rfl, O2, C2⟩
        have B2 := B1.trans (C2.mono q1)
        have q2 := C2.size
        have HJ2 := Lib.hid (HJ.out w2 w1.heap.size v B2 O2 q2)
        have HB2 := Lib.hid B2
        clear C2 B1 O2 B2
        go_wp2_with fail
        refine HJ2.out.mono ?_; rintro e w3 ⟨v3, rfl, O3, C3⟩
        have HF : Hid (Own w3 w.heap.size v3 (ps ++ [r]) ∧ Below w.heap.size w w3) := Lib.hid ⟨own_down O3 q1, HB2.out.trans (C3.mono q1)⟩
        clear O3 C3
        go_wp2
        go_ret
        exact ⟨v3, rfl, HF.out⟩
      · have hpt := prf_right k m ss b (by omega) (by rw [hl]; exact h0) (by rw [hl]; exact hlt)
        rw [hl] at hpt
        rw [hpt]
        have HP : Hid (∀ W, Below w.heap.size w W → Calls Tryd.prog 57 #[.func (.func 66) #[] #[.pointer (some ⟨g, 0, none⟩)], .int .i64 ((m : Int) - (sp n : Int)), .slice (cutA A (sp n) n) (n - sp n) (n - sp n), .bool false] W (Lists (prf k (m - sp n) (ss.drop (sp n)) false) W.heap.size W)) :=
          Lib.hid fun W hb => by
            rw [show (m : Int) - (sp n : Int) = ((m - sp n : Nat) : Int) by omega]
            exact ih (m - sp n) (cutA A (sp n) n) (n - sp n) (n - sp n) _ false W (by omega) (by omega) (by omega) (HG.out W hb) ((hs.below hb).cut_all _ n (by omega) (Nat.le_refl _)) (Nat.le_refl _) (by omega) (ha.drop _) (hT.below hb)
        have hpl := prf_len k (n - sp n) (m - sp n) (ss.drop (sp n)) false (by rw [List.length_drop]; omega) (by rw [List.length_drop]; omega)
        rw [List.length_drop, hl] at hpl
        have HJ : Hid (∀ W B v, Below w.heap.size w W → Own W B v (prf k (m - sp n) (ss.drop (sp n)) false) → B ≤ W.heap.size → Calls Tryd.prog 66 #[v, .slice A (sp n) (sp n), .pointer (some ⟨g, 0, none⟩)] W (Lists (prf k (m - sp n) (ss.drop (sp n)) false ++ [root k (ss.take (sp n))]) B W)) :=
          Lib.hid fun W B v hb ho hB => joiner_calls k g B v _ A (sp n) (sp n) _ W (HG.out W hb) ho hB (by omega) ((hs.below hb).take _ (by omega)) (by omega) (Nat.le_refl _) (ha.take _) (hT.below hb)
        generalize prf k (m - sp n) (ss.drop (sp n)) false = ps at *
        generalize root k (ss.take (sp n)) = r at *
        generalize sp n = p at *
        clear hs ha hT ih hg hpt hl hpl
        have hlt' : ¬ (m : Int) ≤ (p : Int) := by omega
        go_enter Tryd.func57, Tryd.ntmps57
        go_wp2_with fail
        refine HH.out.mono ?_; rintro e w1 ⟨rfl, B1⟩
        have q1 := B1.size
        go_wp2_with fail
        refine (HP.out _ B1).mono ?_; rintro e w2 ⟨v, rfl, O2, C2⟩
        have B2 := B1.trans (C2.mono q1)
        have q2 := C2.size
        have HJ2 := Lib.hid (HJ.out w2 w1.heap.size v B2 O2 q2)
        have HB2 := Lib.hid B2
        clear C2 B1 O2 B2
        go_wp2_with fail
        refine HJ2.out.mono ?_; rintro e w3 ⟨v3, rfl, O3, C3⟩
        have HF : Hid (Own w3 w.heap.size v3 (ps ++ [r]) ∧ Below w.heap.size w w3) := Lib.hid ⟨own_down O3 q1, HB2.out.trans (C3.mono q1)⟩
        clear O3 C3
        go_wp2
        go_ret
        exact ⟨v3, rfl, HF.out⟩
theorem own_one (w : World) (r : ByteArray) : Own (w.alloc (.cells #[.string r] 9)) w.heap.size (.slice (some ⟨w.heap.size, 0, none⟩) 1 1) [r] := by
  have h := World.ownsRow_lit (base := w.heap.size) (e := 9) (size := 1) w #[.string r] 1 (Nat.le_refl _) (by simp [maxLen]) (by simp)
  simpa [Own, sv] using h
set_option maxHeartbeats 4000000 in
theorem rsub_calls (k : Int) (q : Nat) : ∀ (m : Nat) (A : Option Addr) (n c : Nat) (ss : List ByteArray) (b : Bool) (w : World), n ≤ q → 1 ≤ m → m ≤ n → Strs w A n ss → n ≤ c → n ≤ 8796093022207 → All ss → RTab w →
    Calls Tryd.prog 58 #[.int .i64 k, .int .i64 (m : Int), .slice A n c, .bool b] w (Lists (prf k m ss b) w.heap.size w) := by
  induction q with
  | zero => intro m A n c ss b w hq h1 hm; omega
  | succ q ih =>
    intro m A n c ss b w hq h1 hm hs hc hn ha hT
    have hl := hs.len
    by_cases h0 : m = n
    · subst h0
      have heq : ((m : Int) == (m : Int)) = true := by simp
      cases b with
      | true =>
        rw [prf_all k m ss hl.symm]
        have HF := Lib.hid (Own.nil w w.heap.size)
        clear hs ha hT ih
        go_enter Tryd.func58, Tryd.ntmps58
        go_wp2
        go_ret
        exact ⟨_, rfl, HF.out, Below.refl _ _⟩
      | false =>
        rw [prf_one k m ss hl.symm]
        have HR := Lib.hid (rroot_calls k m A m c ss w (Nat.le_refl _) hs hc (by omega) ha hT)
        clear hs ha hT ih
        generalize root k ss = r at *
        go_enter Tryd.func58, Tryd.ntmps58
        go_wp2_with fail
        refine HR.out.mono ?_; rintro e w1 ⟨rfl, B1⟩
        have q1 := B1.size
        have HF : Hid (Own (w1.alloc (.cells #[.string r] 9)) w.heap.size (.slice (some ⟨w1.heap.size, 0, none⟩) 1 1) [r] ∧ Below w.heap.size w (w1.alloc (.cells #[.string r] 9))) := Lib.hid ⟨own_down (own_one w1 r) q1, B1.alloc q1 _⟩
        clear B1
        go_wp2
        go_ret
        exact ⟨_, rfl, HF.out⟩
    · have h2 : 2 ≤ n := by omega
      have hne : ((m : Int) == (n : Int)) = false := by rw [beq_eq_false_iff_ne]; omega
      obtain ⟨s1, s2, s3⟩ := sp_spec h2
      have HH := Lib.hid (fun W => refSplit_calls n h2 (by omega) W)
      have hr1 := fun W => run_cut_h W A n c (sp n) (by omega)
      have hr2 := fun W => run_cut_l W A n c (sp n) (by omega)
      by_cases hlt : m ≤ sp n
      · have hpt := prf_left k m ss b (by omega) (by rw [hl]; exact h0) (by rw [hl]; exact hlt)
        rw [hl] at hpt
        rw [hpt]
        have HP : Hid (∀ W, Below w.heap.size w W → Calls Tryd.prog 58 #[.int .i64 k, .int .i64 ((m : Int)), .slice A (sp n) c, .bool b] W (Lists (prf k (m) (ss.take (sp n)) b) W.heap.size W)) :=
          Lib.hid fun W hb => ih m A (sp n) c _ b W (by omega) (by omega) (by omega) ((hs.below hb).take _ (by omega)) (by omega) (by omega) (ha.take _) (hT.below hb)
        have hpl := prf_len k (sp n) (m) (ss.take (sp n)) b (by rw [List.length_take]; omega) (by rw [List.length_take]; omega)
        rw [List.length_take, hl, Nat.min_eq_left (by omega)] at hpl
        have HR := Lib.hid (rroot_calls k (n - sp n) (cutA A (sp n) c) (n - sp n) (c - sp n) (ss.drop (sp n)) w (Nat.le_refl _) (hs.cut_all _ c (by omega) hc) (by omega) (by omega) (ha.drop _) hT)
        have HPL : Hid ((prf k (m) (ss.take (sp n)) b).length + 1 ≤ 8796093022208) := Lib.hid (by omega)
        generalize prf k (m) (ss.take (sp n)) b = ps at *
        generalize root k (ss.drop (sp n)) = r at *
        generalize sp n = p at *
        clear hs ha hT ih hpt hl hpl
        have hlt' : (m : Int) ≤ (p : Int) := by omega
        go_enter Tryd.func58, Tryd.ntmps58
        go_wp2_with fail
        refine (HH.out _).mono ?_; rintro e _ ⟨rfl, rfl⟩
        go_wp2_with fail
        refine HR.out.mono ?_; rintro e w1 ⟨rfl, B1⟩
        have q1 := B1.size
        go_wp2_with fail
        refine (HP.out _ B1).mono ?_; rintro e w2 ⟨v, rfl, O2, C2⟩
        have q2 : w.heap.size ≤ w2.heap.size := Nat.le_trans q1 C2.size
        have HO2 := Lib.hid (own_down O2 q1)
        have HB2 := Lib.hid (B1.trans (C2.mono q1))
        clear C2 B1 O2 hr1 hr2
        go_wp2_with (at_builtin; refine wpList_app1 w.heap.size rfl (.tmp 41) (.tmp 43) rfl v ps r rfl rfl HO2.out HB2.out q2 HPL.out ?_; intro v3 w3 ho3 hb3 _ _)
        go_ret
        exact ⟨v3, rfl, ho3, hb3⟩
      · have hpt := prf_right k m ss b (by omega) (by rw [hl]; exact h0) (by rw [hl]; exact hlt)
        rw [hl] at hpt
        rw [hpt]
        have HP : Hid (∀ W, Below w.heap.size w W → Calls Tryd.prog 58 #[.int .i64 k, .int .i64 ((m : Int) - (sp n : Int)), .slice (cutA A (sp n) c) (n - sp n) (c - sp n), .bool false] W (Lists (prf k (m - sp n) (ss.drop (sp n)) false) W.heap.size W)) :=
          Lib.hid fun W hb => by
            rw [show (m : Int) - (sp n : Int) = ((m - sp n : Nat) : Int) by omega]
            exact ih (m - sp n) (cutA A (sp n) c) (n - sp n) (c - sp n) _ false W (by omega) (by omega) (by omega) ((hs.below hb).cut_all _ c (by omega) hc) (by omega) (by omega) (ha.drop _) (hT.below hb)
        have hpl := prf_len k (n - sp n) (m - sp n) (ss.drop (sp n)) false (by rw [List.length_drop]; omega) (by rw [List.length_drop]; omega)
        rw [List.length_drop, hl] at hpl
        have HR := Lib.hid (rroot_calls k (sp n) A (sp n) c (ss.take (sp n)) w (Nat.le_refl _) (hs.take _ (by omega)) (by omega) (by omega) (ha.take _) hT)
        have HPL : Hid ((prf k (m - sp n) (ss.drop (sp n)) false).length + 1 ≤ 8796093022208) := Lib.hid (by omega)
        generalize prf k (m - sp n) (ss.drop (sp n)) false = ps at *
        generalize root k (ss.take (sp n)) = r at *
        generalize sp n = p at *
        clear hs ha hT ih hpt hl hpl
        have hlt' : ¬ (m : Int) ≤ (p : Int) := by omega
        go_enter Tryd.func58, Tryd.ntmps58
        go_wp2_with fail
        refine (HH.out _).mono ?_; rintro e _ ⟨rfl, rfl⟩
        go_wp2_with fail
        refine HR.out.mono ?_; rintro e w1 ⟨rfl, B1⟩
        have q1 := B1.size
        go_wp2_with fail
        refine (HP.out _ B1).mono ?_; rintro e w2 ⟨v, rfl, O2, C2⟩
        have q2 : w.heap.size ≤ w2.heap.size := Nat.le_trans q1 C2.size
        have HO2 := Lib.hid (own_down O2 q1)
        have HB2 := Lib.hid (B1.trans (C2.mono q1))
        clear C2 B1 O2 hr1 hr2
        go_wp2_with (at_builtin; refine wpList_app1 w.heap.size rfl (.tmp 57) (.tmp 59) rfl v ps r rfl rfl HO2.out HB2.out q2 HPL.out ?_; intro v3 w3 ho3 hb3 _ _)
        go_ret
        exact ⟨v3, rfl, ho3, hb3⟩
end Go.Proofs.YtcenfedmbicofaaDoor.Mth
