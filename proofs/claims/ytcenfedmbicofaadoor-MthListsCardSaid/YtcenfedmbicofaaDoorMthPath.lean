/- mth.path, Path, and the document's: their walks. -/
import Derived.Test.YtcenfedmbicofaaDoorMthLaw1
set_option linter.unusedVariables false
set_option linter.unusedSimpArgs false
namespace Go.Proofs.YtcenfedmbicofaaDoor.Mth
open Go.RowKit Go.Proofs.YtcenfedmbicofaaDoor.Base Go.Proofs.YtcenfedmbicofaaDoor.ShaPlain Go.Proofs.YtcenfedmbicofaaDoor.ShaDig Go.Proofs.YtcenfedmbicofaaDoor.TreeHash Go.Proofs.YtcenfedmbicofaaDoor.Strs Go.Proofs.YtcenfedmbicofaaDoor.Mem

/-- The path of a leaf. -/
def path (k : Int) (i : Nat) (l : List ByteArray) : List ByteArray :=
  if h : 2 ≤ l.length then
    if i < sp l.length then path k i (l.take (sp l.length)) ++ [root k (l.drop (sp l.length))]
    else path k (i - sp l.length) (l.drop (sp l.length)) ++ [root k (l.take (sp l.length))]
  else []
termination_by l.length
decreasing_by
  · have := sp_spec h; rw [List.length_take]; omega
  · have := sp_spec h; rw [List.length_drop]; omega
theorem path_short (k : Int) (i : Nat) (l : List ByteArray) (h : ¬ 2 ≤ l.length) : path k i l = [] := by rw [path, dif_neg h]
theorem path_left (k : Int) (i : Nat) (l : List ByteArray) (h : 2 ≤ l.length) (hi : i < sp l.length) : path k i l = path k i (l.take (sp l.length)) ++ [root k (l.drop (sp l.length))] := by
  conv => lhs; rw [path]
  rw [dif_pos h, if_pos hi]
theorem path_right (k : Int) (i : Nat) (l : List ByteArray) (h : 2 ≤ l.length) (hi : ¬ i < sp l.length) : path k i l = path k (i - sp l.length) (l.drop (sp l.length)) ++ [root k (l.take (sp l.length))] := by
  conv => lhs; rw [path]
  rw [dif_pos h, if_neg hi]
theorem path_len (k : Int) (m : Nat) : ∀ (i : Nat) (l : List ByteArray), l.length ≤ m → (path k i l).length ≤ l.length := by
  induction m with
  | zero => intro i l hl; rw [path_short k i l (by omega)]; exact Nat.zero_le _
  | succ m ih =>
    intro i l hl
    by_cases h : 2 ≤ l.length
    · obtain ⟨s1, s2, s3⟩ := sp_spec h
      by_cases hi : i < sp l.length
      · rw [path_left k i l h hi, List.length_append]
        have := ih i (l.take (sp l.length)) (by rw [List.length_take]; omega)
        rw [List.length_take] at this
        simp; omega
      · rw [path_right k i l h hi, List.length_append]
        have := ih (i - sp l.length) (l.drop (sp l.length)) (by rw [List.length_drop]; omega)
        rw [List.length_drop] at this
        simp; omega
    · rw [path_short k i l h]; exact Nat.zero_le _
/-- A list of texts, in new memory. -/
def Lists (xs : List ByteArray) (B : Nat) (w : World) (e : Ending) (w' : World) : Prop := ∃ v, e = .returned v ∧ Own w' B v xs ∧ Below B w w'
def jn (g : Nat) : Value := .func (.func 66) #[] #[.pointer (some ⟨g, 0, none⟩)]
set_option maxHeartbeats 1000000 in
theorem joiner_calls (k : Int) (g : Nat) (B : Nat) (v : Value) (ps : List ByteArray) (A : Option Addr) (n c : Nat) (ss : List ByteArray) (w : World) (hg : w.cell? ⟨g, 0, none⟩ = some (.int .i64 k)) (ho : Own w B v ps) (hB : B ≤ w.heap.size) (hp : ps.length + 1 ≤ 8796093022208)
    (hs : Strs w A n ss) (hn : n ≤ 1000000000000000) (hc : n ≤ c) (ha : All ss) (hT : Tab w) :
    Calls Tryd.prog 66 #[v, .slice A n c, .pointer (some ⟨g, 0, none⟩)] w (Lists (ps ++ [root k ss]) B w) := by
  have HR := Lib.hid (mroot_calls k n A n c ss w (Nat.le_refl _) hs hc hn ha hT)
  have HO := Lib.hid ho
  generalize root k ss = r at *
  clear ho hs ha hT
  go_enter Tryd.func66, Tryd.ntmps66
  go_wp2_with fail
  refine HR.out.mono ?_; rintro e w1 ⟨rfl, C1⟩
  have O1 := Lib.hid (HO.out.below C1)
  have B1 := Lib.hid (C1.mono hB)
  have hz1 := B1.out.size
  have hB1 : B ≤ w1.heap.size := by omega
  clear C1
  go_wp2_with (at_builtin; refine wpList_app1 B rfl (.tmp 6) (.tmp 10) rfl v ps r rfl rfl O1.out B1.out hB1 hp ?_; intro v2 w2 ho2 hb2 _ _)
  go_ret
  exact ⟨v2, rfl, ho2, hb2⟩
set_option maxHeartbeats 2000000 in
theorem mpath_calls (k : Int) (g : Nat) (m : Nat) : ∀ (i : Nat) (A : Option Addr) (n c : Nat) (ss : List ByteArray) (w : World), n ≤ m → i < n → w.cell? ⟨g, 0, none⟩ = some (.int .i64 k) → Strs w A n ss → n ≤ c → n ≤ 8796093022207 → All ss → Tab w →
    Calls Tryd.prog 51 #[jn g, .int .i64 (i : Int), .slice A n c] w (Lists (path k i ss) w.heap.size w) := by
  induction m with
  | zero => intro i A n c ss w hm hi; omega
  | succ m ih =>
    intro i A n c ss w hm hi hg hs hc hn ha hT
    have hl := hs.len
    have hgl := World.block_lt_of_cell? w _ hg
    unfold jn at *
    by_cases h1 : n = 1
    · subst h1
      rw [path_short k i ss (by omega)]
      have HF := Lib.hid (Own.nil w w.heap.size)
      clear hs ha hT ih hg
      go_enter Tryd.func51, Tryd.ntmps51
      go_wp2
      go_ret
      exact ⟨_, rfl, HF.out, Below.refl _ _⟩
    · have h2 : 2 ≤ n := by omega
      obtain ⟨s1, s2, s3⟩ := sp_spec h2
      have HH := Lib.hid (halves_calls A n c h2 hc (by omega) w)
      have hne1 : ((n : Int) == 1) = false := by rw [beq_eq_false_iff_ne]; omega
      have HG : Hid (∀ W, Below w.heap.size w W → W.cell? ⟨g, 0, none⟩ = some (.int .i64 k)) := Lib.hid fun W hb => (hb.cell (p := ⟨g, 0, none⟩) hgl).trans hg
      by_cases hlt : i < sp n
      · have hpt := path_left k i ss (by omega) (by rw [hl]; exact hlt)
        rw [hl] at hpt
        rw [hpt]
        have HP : Hid (∀ W, Below w.heap.size w W → Calls Tryd.prog 51 #[.func (.func 66) #[] #[.pointer (some ⟨g, 0, none⟩)], .int .i64 (i : Int), .slice A (sp n) (sp n)] W (Lists (path k i (ss.take (sp n))) W.heap.size W)) :=
          Lib.hid fun W hb => ih i A (sp n) (sp n) _ W (by omega) hlt (HG.out W hb) ((hs.below hb).take _ (by omega)) (Nat.le_refl _) (by omega) (ha.take _) (hT.below hb)
        have hpl := path_len k (sp n) i (ss.take (sp n)) (by rw [List.length_take]; omega)
        rw [List.length_take, hl, Nat.min_eq_left (by omega)] at hpl
        have HJ : Hid (∀ W B v, Below w.heap.size w W → Own W B v (path k i (ss.take (sp n))) → B ≤ W.heap.size → Calls Tryd.prog 66 #[v, .slice (cutA A (sp n) n) (n - sp n) (n - sp n), .pointer (some ⟨g, 0, none⟩)] W (Lists (path k i (ss.take (sp n)) ++ [root k (ss.drop (sp n))]) B W)) :=
          Lib.hid fun W B v hb ho hB => joiner_calls k g B v _ (cutA A (sp n) n) (n - sp n) (n - sp n) _ W (HG.out W hb) ho hB (by omega) ((hs.below hb).cut_all _ n (by omega) (Nat.le_refl _)) (by omega) (Nat.le_refl _) (ha.drop _) (hT.below hb)
        generalize path k i (ss.take (sp n)) = ps at *
        generalize root k (ss.drop (sp n)) = r at *
        generalize sp n = p at *
        clear hs ha hT ih hg hpt hl hpl
        have hlt' : (i : Int) < (p : Int) := by omega
        go_enter Tryd.func51, Tryd.ntmps51
        go_wp2_with fail
        refine HH.out.mono ?_; rintro e w1 ⟨rfl, B1⟩
        have q1 := B1.size
        go_wp2_with fail
        refine (HP.out _ B1).mono ?_; rintro e w2 ⟨v, rfl, O2, C2⟩
        have B2 := B1.trans (C2.mono q1)
        have q2 := C2.size
        have HJ2 := Lib.hid (HJ.out w2 w1.heap.size v B2 O2 q2)
        have HB2 := Lib.hid B2
        clear C2 B1 O2 B2
        go_wp2_with fail
        refine HJ2.out.mono ?_; rintro e w3 ⟨v3, rfl, O3, C3⟩
        have HF : Hid (Own w3 w.heap.size v3 (ps ++ [r]) ∧ Below w.heap.size w w3) := Lib.hid ⟨own_down O3 q1, HB2.out.trans (C3.mono q1)⟩
        clear O3 C3
        go_wp2
        go_ret
        exact ⟨v3, rfl, HF.out⟩
      · have hpt := path_right k i ss (by omega) (by rw [hl]; exact hlt)
        rw [hl] at hpt
        rw [hpt]
        have HP : Hid (∀ W, Below w.heap.size w W → Calls Tryd.prog 51 #[.func (.func 66) #[] #[.pointer (some ⟨g, 0, none⟩)], .int .i64 ((i : Int) - (sp n : Int)), .slice (cutA A (sp n) n) (n - sp n) (n - sp n)] W (Lists (path k (i - sp n) (ss.drop (sp n))) W.heap.size W)) :=
          Lib.hid fun W hb => by
            rw [show (i : Int) - (sp n : Int) = ((i - sp n : Nat) : Int) by omega]
            exact ih (i - sp n) (cutA A (sp n) n) (n - sp n) (n - sp n) _ W (by omega) (by omega) (HG.out W hb) ((hs.below hb).cut_all _ n (by omega) (Nat.le_refl _)) (Nat.le_refl _) (by omega) (ha.drop _) (hT.below hb)
        have hpl := path_len k (n - sp n) (i - sp n) (ss.drop (sp n)) (by rw [List.length_drop]; omega)
        rw [List.length_drop, hl] at hpl
        have HJ : Hid (∀ W B v, Below w.heap.size w W → Own W B v (path k (i - sp n) (ss.drop (sp n))) → B ≤ W.heap.size → Calls Tryd.prog 66 #[v, .slice A (sp n) (sp n), .pointer (some ⟨g, 0, none⟩)] W (Lists (path k (i - sp n) (ss.drop (sp n)) ++ [root k (ss.take (sp n))]) B W)) :=
          Lib.hid fun W B v hb ho hB => joiner_calls k g B v _ A (sp n) (sp n) _ W (HG.out W hb) ho hB (by omega) ((hs.below hb).take _ (by omega)) (by omega) (Nat.le_refl _) (ha.take _) (hT.below hb)
        generalize path k (i - sp n) (ss.drop (sp n)) = ps at *
        generalize root k (ss.take (sp n)) = r at *
        generalize sp n = p at *
        clear hs ha hT ih hg hpt hl hpl
        have hlt' : ¬ (i : Int) < (p : Int) := by omega
        go_enter Tryd.func51, Tryd.ntmps51
        go_wp2_with fail
        refine HH.out.mono ?_; rintro e w1 ⟨rfl, B1⟩
        have q1 := B1.size
        go_wp2_with fail
        refine (HP.out _ B1).mono ?_; rintro e w2 ⟨v, rfl, O2, C2⟩
        have B2 := B1.trans (C2.mono q1)
        have q2 := C2.size
        have HJ2 := Lib.hid (HJ.out w2 w1.heap.size v B2 O2 q2)
        have HB2 := Lib.hid B2
        clear C2 B1 O2 B2
        go_wp2_with fail
        refine HJ2.out.mono ?_; rintro e w3 ⟨v3, rfl, O3, C3⟩
        have HF : Hid (Own w3 w.heap.size v3 (ps ++ [r]) ∧ Below w.heap.size w w3) := Lib.hid ⟨own_down O3 q1, HB2.out.trans (C3.mono q1)⟩
        clear O3 C3
        go_wp2
        go_ret
        exact ⟨v3, rfl, HF.out⟩
set_option maxHeartbeats 2000000 in
theorem rpath_calls (k : Int) (m : Nat) : ∀ (i : Nat) (A : Option Addr) (n c : Nat) (ss : List ByteArray) (w : World), n ≤ m → i < n → Strs w A n ss → n ≤ c → n ≤ 8796093022207 → All ss → RTab w →
    Calls Tryd.prog 53 #[.int .i64 k, .int .i64 (i : Int), .slice A n c] w (Lists (path k i ss) w.heap.size w) := by
  induction m with
  | zero => intro i A n c ss w hm hi; omega
  | succ m ih =>
    intro i A n c ss w hm hi hs hc hn ha hT
    have hl := hs.len
    by_cases h1 : n = 1
    · subst h1
      rw [path_short k i ss (by omega)]
      have HF := Lib.hid (Own.nil w w.heap.size)
      clear hs ha hT ih
      go_enter Tryd.func53, Tryd.ntmps53
      go_wp2
      go_ret
      exact ⟨_, rfl, HF.out, Below.refl _ _⟩
    · have h2 : 2 ≤ n := by omega
      obtain ⟨s1, s2, s3⟩ := sp_spec h2
      have HH := Lib.hid (fun W => refSplit_calls n h2 (by omega) W)
      have hne1 : ((n : Int) == 1) = false := by rw [beq_eq_false_iff_ne]; omega
      have hr1 := fun W => run_cut_h W A n c (sp n) (by omega)
      have hr2 := fun W => run_cut_l W A n c (sp n) (by omega)
      by_cases hlt : i < sp n
      · have hpt := path_left k i ss (by omega) (by rw [hl]; exact hlt)
        rw [hl] at hpt
        rw [hpt]
        have HP : Hid (∀ W, Below w.heap.size w W → Calls Tryd.prog 53 #[.int .i64 k, .int .i64 (i : Int), .slice A (sp n) c] W (Lists (path k i (ss.take (sp n))) W.heap.size W)) :=
          Lib.hid fun W hb => ih i A (sp n) c _ W (by omega) hlt ((hs.below hb).take _ (by omega)) (by omega) (by omega) (ha.take _) (hT.below hb)
        have hpl := path_len k (sp n) i (ss.take (sp n)) (by rw [List.length_take]; omega)
        rw [List.length_take, hl, Nat.min_eq_left (by omega)] at hpl
        have HR := Lib.hid (rroot_calls k (n - sp n) (cutA A (sp n) c) (n - sp n) (c - sp n) (ss.drop (sp n)) w (Nat.le_refl _) (hs.cut_all _ c (by omega) hc) (by omega) (by omega) (ha.drop _) hT)
        have HPL : Hid ((path k i (ss.take (sp n))).length + 1 ≤ 8796093022208) := Lib.hid (by omega)
        generalize path k i (ss.take (sp n)) = ps at *
        generalize root k (ss.drop (sp n)) = r at *
        generalize sp n = p at *
        clear hs ha hT ih hpt hl hpl
        have hlt' : (i : Int) < (p : Int) := by omega
        go_enter Tryd.func53, Tryd.ntmps53
        go_wp2_with fail
        refine (HH.out _).mono ?_; rintro e _ ⟨rfl, rfl⟩
        go_wp2_with fail
        refine HR.out.mono ?_; rintro e w1 ⟨rfl, B1⟩
        have q1 := B1.size
        go_wp2_with fail
        refine (HP.out _ B1).mono ?_; rintro e w2 ⟨v, rfl, O2, C2⟩
        have q2 : w.heap.size ≤ w2.heap.size := Nat.le_trans q1 C2.size
        have HO2 := Lib.hid (own_down O2 q1)
        have HB2 := Lib.hid (B1.trans (C2.mono q1))
        clear C2 B1 O2 hr1 hr2
        go_wp2_with (at_builtin; refine wpList_app1 w.heap.size rfl (.tmp 30) (.tmp 32) rfl v ps r rfl rfl HO2.out HB2.out q2 HPL.out ?_; intro v3 w3 ho3 hb3 _ _)
        go_ret
        exact ⟨v3, rfl, ho3, hb3⟩
      · have hpt := path_right k i ss (by omega) (by rw [hl]; exact hlt)
        rw [hl] at hpt
        rw [hpt]
        have HP : Hid (∀ W, Below w.heap.size w W → Calls Tryd.prog 53 #[.int .i64 k, .int .i64 ((i : Int) - (sp n : Int)), .slice (cutA A (sp n) c) (n - sp n) (c - sp n)] W (Lists (path k (i - sp n) (ss.drop (sp n))) W.heap.size W)) :=
          Lib.hid fun W hb => by
            rw [show (i : Int) - (sp n : Int) = ((i - sp n : Nat) : Int) by omega]
            exact ih (i - sp n) (cutA A (sp n) c) (n - sp n) (c - sp n) _ W (by omega) (by omega) ((hs.below hb).cut_all _ c (by omega) hc) (by omega) (by omega) (ha.drop _) (hT.below hb)
        have hpl := path_len k (n - sp n) (i - sp n) (ss.drop (sp n)) (by rw [List.length_drop]; omega)
        rw [List.length_drop, hl] at hpl
        have HR := Lib.hid (rroot_calls k (sp n) A (sp n) c (ss.take (sp n)) w (Nat.le_refl _) (hs.take _ (by omega)) (by omega) (by omega) (ha.take _) hT)
        have HPL : Hid ((path k (i - sp n) (ss.drop (sp n))).length + 1 ≤ 8796093022208) := Lib.hid (by omega)
        generalize path k (i - sp n) (ss.drop (sp n)) = ps at *
        generalize root k (ss.take (sp n)) = r at *
        generalize sp n = p at *
        clear hs ha hT ih hpt hl hpl
        have hlt' : ¬ (i : Int) < (p : Int) := by omega
        go_enter Tryd.func53, Tryd.ntmps53
        go_wp2_with fail
        refine (HH.out _).mono ?_; rintro e _ ⟨rfl, rfl⟩
        go_wp2_with fail
        refine HR.out.mono ?_; rintro e w1 ⟨rfl, B1⟩
        have q1 := B1.size
        go_wp2_with fail
        refine (HP.out _ B1).mono ?_; rintro e w2 ⟨v, rfl, O2, C2⟩
        have q2 : w.heap.size ≤ w2.heap.size := Nat.le_trans q1 C2.size
        have HO2 := Lib.hid (own_down O2 q1)
        have HB2 := Lib.hid (B1.trans (C2.mono q1))
        clear C2 B1 O2 hr1 hr2
        go_wp2_with (at_builtin; refine wpList_app1 w.heap.size rfl (.tmp 46) (.tmp 48) rfl v ps r rfl rfl HO2.out HB2.out q2 HPL.out ?_; intro v3 w3 ho3 hb3 _ _)
        go_ret
        exact ⟨v3, rfl, ho3, hb3⟩
end Go.Proofs.YtcenfedmbicofaaDoor.Mth
