/- twin, same, kept; MthRoot: their walks. -/
import Derived.Test.YtcenfedmbicofaaDoorMthRoot
set_option linter.unusedVariables false
set_option linter.unusedSimpArgs false
namespace Go.Proofs.YtcenfedmbicofaaDoor.Mth
open Go.RowKit Go.Proofs.YtcenfedmbicofaaDoor.Base Go.Proofs.YtcenfedmbicofaaDoor.ShaPlain Go.Proofs.YtcenfedmbicofaaDoor.ShaDig Go.Proofs.YtcenfedmbicofaaDoor.TreeHash Go.Proofs.YtcenfedmbicofaaDoor.Strs Go.Proofs.YtcenfedmbicofaaDoor.Mem

abbrev Ints (l : List Nat) (i : Nat) : Int := (l.map fun x : Nat => (x : Int)).getD i 0
def mark : ByteArray := ⟨#[109, 97, 114, 107]⟩
/-- A twin of a list: new memory, with a mark behind. -/
def Twin (ss : List ByteArray) (w : World) (e : Ending) (w' : World) : Prop :=
  ∃ g c, e = .returned (.slice (some ⟨g, 0, none⟩) ss.length c) ∧ ss.length < c ∧ w.heap.size ≤ g ∧ Own w' w.heap.size (.slice (some ⟨g, 0, none⟩) (ss.length + 1) c) (ss ++ [mark]) ∧ Below w.heap.size w w'
theorem own_slice {w : World} {base : Nat} {v : Value} {ss : List ByteArray} (h : Own w base v ss) (hp : 0 < ss.length) : ∃ g c, v = .slice (some ⟨g, 0, none⟩) ss.length c ∧ base ≤ g ∧ ss.length ≤ c := by
  rcases h.2 with ⟨_, h0⟩ | ⟨g, cap, cur, rfl, hb, _, hnc, _⟩
  · omega
  · exact ⟨g, cap, rfl, hb, hnc⟩
theorem own_strs {w : World} {base g n c : Nat} {ss : List ByteArray} (h : Own w base (.slice (some ⟨g, 0, none⟩) n c) ss) (hn : ss.length = n) : Strs w (some ⟨g, 0, none⟩) n ss := by
  obtain ⟨B, c', e, _, hs⟩ := h.shape
  injection e with e1 e2 e3
  rw [← hn, e1]; exact hs
theorem len_snoc (ss : List ByteArray) (x : ByteArray) {n : Nat} (h : ss.length = n) : (ss ++ [x]).length = n + 1 := by rw [List.length_append, h]; rfl
set_option maxHeartbeats 1000000 in
theorem twin_calls (A : Option Addr) (n c : Nat) (ss : List ByteArray) (w : World) (hC : Came w A n c ss) : Calls Tryd.prog 23 #[.slice A n c] w (Twin ss w) := by
  obtain ⟨hS, hnc, hcb, _⟩ := hC
  have hl := Lib.hid hS.len
  have HN := Lib.hid (Own.nil w w.heap.size)
  go_enter Tryd.func23, Tryd.ntmps23
  go_wp2_with (first
    | (at_builtin; refine wpList_appRow w.heap.size rfl (.tmp 4) (.tmp 5) rfl _ [] ss A n c rfl rfl HN.out hS (Below.refl w.heap.size w) (Nat.le_refl _) (by simp; omega) ?_; intro v1 w1 ho1 hb1 _ _; clear hS HN; rw [List.nil_append] at ho1; have hz1 := hb1.size)
    | (at_builtin; refine wpList_app1 w.heap.size rfl (.tmp 7) (.tmp 8) rfl _ ss mark rfl rfl ho1 hb1 hz1 (by rw [hl.out]; omega) ?_; intro v2 w2 ho2 hb2 _ _; clear ho1 hb1; obtain ⟨g, c2, hv2, hg, hnc2⟩ := own_slice ho2 (by simp); rw [len_snoc ss mark hl.out] at hv2 hnc2; subst hv2; have hcut := run_cut_h w2 (some ⟨g, 0, none⟩) (n + 1) c2 n (by omega); have HF : Hid (∀ e, e = .returned (.slice (some ⟨g, 0, none⟩) n c2) → Twin ss w e w2) := Lib.hid (fun e he => ⟨g, c2, by rw [hl.out]; exact he, by rw [hl.out]; omega, hg, by rw [hl.out]; exact ho2, hb2⟩); clear ho2 hb2 hnc2))
  go_ret
  exact HF.out _ rfl
set_option maxHeartbeats 1000000 in
theorem same_calls (A B : Option Addr) (n m c d : Nat) (xs ys : List ByteArray) (w : World) (ha : Strs w A n xs) (hb : Strs w B m ys) (hn : n ≤ 1000000000000000) (hm : m ≤ 1000000000000000) (r : Bool) (hr : r = true ↔ xs = ys) :
    Calls Tryd.prog 30 #[.slice A n c, .slice B m d] w (fun e w' => e = .returned (.bool r) ∧ Below w.heap.size w w') := by
  have hla := Lib.hid ha.len
  have hlb := Lib.hid hb.len
  by_cases hs : n = m
  · subst hs
    have HR := Lib.hid hr
    clear hr
    go_enter Tryd.func30, Tryd.ntmps30
    go_wp2_with fail
    go_loopw [5] (fun s5 wx => ∃ i : Nat, i ≤ n ∧ s5 = .int .i64 i ∧ Hid (xs.take i = ys.take i) ∧ Strs wx A n xs ∧ Strs wx B n ys ∧ Below w.heap.size w wx) (fun s5 _ => n - (intOf s5).toNat)
    case atStart => exact ⟨0, by omega, rfl, Lib.hid (by simp), ha, hb, Below.refl _ _⟩
    case round =>
      obtain ⟨i, hi, rfl, hz, hsa, hsb, hbl⟩ := hrel
      by_cases hlt : i < n
      · have hlt' : (i : Int) < (n : Int) := by omega
        obtain ⟨aa, hA, ha1, ca⟩ := hsa.at_ i hlt
        obtain ⟨ab, hB, hb1, cb⟩ := hsb.at_ i hlt
        have HSA : Hid (∀ k, Strs (wr.drewN k) A n xs ∧ Strs (wr.drewN k) B n ys ∧ Below w.heap.size w (wr.drewN k)) := Lib.hid fun k => ⟨hsa.drewN k, hsb.drewN k, ((Grew.of_below hbl none).drewN k).below⟩
        have hsta := take_get xs i (by rw [hla.out]; exact hlt)
        have hstb := take_get ys i (by rw [hlb.out]; exact hlt)
        have HT1 := Lib.hid hsta
        have HT2 := Lib.hid hstb
        have HG1 : Hid (xs = ys → xs.getD i ⟨#[]⟩ = ys.getD i ⟨#[]⟩) := Lib.hid fun e => by rw [e]
        clear hsta hstb hsa hsb hbl
        subst hA hB
        generalize xs.getD i ⟨#[]⟩ = x at *
        generalize ys.getD i ⟨#[]⟩ = y at *
        by_cases hxy : x = y
        · subst hxy
          have HZ : Hid (xs.take (i + 1) = ys.take (i + 1)) := Lib.hid (by rw [HT1.out, HT2.out, hz.out])
          go_wp2_with fail
          go_quiet (fail)
          go_wp2
          go_roundw
          case rel => exact ⟨i + 1, by omega, by go_num, HZ, HSA.out _⟩
          case measure => simp [intOf]; omega
        · have hxy2 : (x.toList == y.toList) = false := by rw [Base.toList_beq]; simp [hxy]
          have hxy3 : (x.toList != y.toList) = true := by rw [bne, hxy2]; rfl
          have HF : Hid (r = false) := Lib.hid (by
            rw [← Bool.not_eq_true, HR.out]
            exact fun e => hxy (HG1.out e))
          have HX := Lib.hid hxy
          clear hxy
          go_wp2_with fail
          go_quiet (fail)
          go_wp2
          go_ret
          exact ⟨by rw [HF.out]; rfl, (HSA.out _).2.2⟩
      · have hin : i = n := by omega
        have hlt' : ¬ (i : Int) < (n : Int) := by omega
        rw [hin, List.take_of_length_le (by rw [hla.out]; exact Nat.le_refl _), List.take_of_length_le (by rw [hlb.out]; exact Nat.le_refl _)] at hz
        have HF : Hid (r = true) := Lib.hid (HR.out.2 hz.out)
        clear hin
        go_wp2
        go_ret
        exact ⟨by rw [HF.out]; rfl, hbl⟩
  · have hne : ((n : Int) != (m : Int)) = true := by rw [bne_iff_ne]; omega
    have HF : Hid (r = false) := Lib.hid (by
      rw [← Bool.not_eq_true, hr]
      intro e
      exact hs (by rw [← hla.out, ← hlb.out, e]))
    clear hr
    go_enter Tryd.func30, Tryd.ntmps30
    go_wp2
    go_ret
    exact ⟨by rw [HF.out]; rfl, Below.refl _ _⟩
set_option maxHeartbeats 1000000 in
theorem kept_calls (A : Option Addr) (g n c d : Nat) (ss : List ByteArray) (w : World) (hi : Strs w (some ⟨g, 0, none⟩) (n + 1) (ss ++ [mark])) (hs : Strs w A n ss) (hn : n ≤ 1000000000000000) (hc : n < c) :
    Calls Tryd.prog 26 #[.slice (some ⟨g, 0, none⟩) n c, .slice A n d] w (fun e w' => e = .returned (.bool true) ∧ Below w.heap.size w w') := by
  have h1 := hi.take n (by omega)
  have hl := hs.len
  rw [List.take_left' hl] at h1
  have HS := Lib.hid (same_calls (some ⟨g, 0, none⟩) A n n c d ss ss w h1 hs hn hn true (by simp))
  have hcut := fun W => run_cut_h W (some ⟨g, 0, none⟩) n c (n + 1) (by omega)
  have HC : Hid (∀ W, Below w.heap.size w W → W.cell? ⟨g, n, none⟩ = some (.string mark)) := Lib.hid fun W hb => by
    obtain ⟨ad, e, _, hc⟩ := (hi.below hb).at_ n (by omega)
    have e := Option.some.inj e
    rw [← e, Arr.add_plain, Nat.zero_add] at hc
    rw [hc, List.getD_eq_getElem?_getD, List.getElem?_append_right (by omega), hl]
    simp
  have hcut : ∀ W, (Instr.slice 26 (.slice (some ⟨g, 0, none⟩) n c) none (some (.int .i64 ((n : Int) + 1))) none).run Tryd.prog W = .ok (.slice (some ⟨g, 0, none⟩) (n + 1) c) W := hcut
  clear h1 hi hs
  go_enter Tryd.func26, Tryd.ntmps26
  go_wp2_with fail
  refine HS.out.mono ?_; rintro e w1 ⟨rfl, hb⟩
  have hcell := HC.out w1 hb
  go_wp2
  go_ret
  exact ⟨by simp [mark], hb⟩
end Go.Proofs.YtcenfedmbicofaaDoor.Mth
