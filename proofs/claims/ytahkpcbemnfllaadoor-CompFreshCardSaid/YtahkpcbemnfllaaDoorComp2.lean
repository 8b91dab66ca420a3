/- comp.Check, Root, and the document's: their walks. -/
import Derived.Test.YtahkpcbemnfllaaDoorComp1
set_option linter.unusedVariables false
set_option linter.unusedSimpArgs false
namespace Go.Proofs.YtahkpcbemnfllaaDoor.Comp
open Go.RowKit Go.Proofs.YtahkpcbemnfllaaDoor.Base Go.Proofs.YtahkpcbemnfllaaDoor.Mem Go.Proofs.YtahkpcbemnfllaaDoor.Strs Go.Proofs.YtahkpcbemnfllaaDoor.ShaDig Go.Proofs.YtahkpcbemnfllaaDoor.TreeHash Go.Proofs.YtahkpcbemnfllaaDoor.Cov
open Go.Proofs.YtahkpcbemnfllaaDoor.Fold (foldH Fit)
open Go.Proofs.YtahkpcbemnfllaaDoor.Lst (OwnA Adr OwnA.shape Kp own_below)

/-- A frontier as a value. -/
abbrev fv (lo hi : Int) (A : Option Addr) (n c : Nat) : Value := .agg #[.int .i64 lo, .int .i64 hi, .slice A n c]
/-- What Check answers. -/
def chk (k lo hi : Int) (ss : List ByteArray) : Int :=
  if covE lo hi ≠ 0 then 10 else if (covL lo hi).length ≠ ss.length then 71 else if ∀ s ∈ ss, s.size = wid k then 0 else 72
theorem all_of {ss : List ByteArray} {m n : Nat} (hl : ss.length = n) (h : ∀ j, j < n → (ss.getD j ⟨#[]⟩).size = m) : ∀ s ∈ ss, s.size = m := by
  intro s hs
  obtain ⟨j, hj, rfl⟩ := List.mem_iff_getElem.1 hs
  have := h j (by omega)
  rwa [List.getD_eq_getElem?_getD, List.getElem?_eq_getElem hj] at this
theorem get_of {ss : List ByteArray} {m j : Nat} (hj : j < ss.length) (h : ∀ s ∈ ss, s.size = m) : (ss.getD j ⟨#[]⟩).size = m := by
  rw [List.getD_eq_getElem?_getD, List.getElem?_eq_getElem hj]; exact h _ (List.getElem_mem hj)
abbrev IntOf (z : Int) (w : World) (e : Ending) (w' : World) : Prop := e = .returned (.int .i64 z) ∧ Below w.heap.size w w'
def IntB (z : Int) (w : World) (e : Ending) (w' : World) : Prop := e = .returned (.int .i64 z) ∧ Below w.heap.size w w'
set_option maxHeartbeats 2000000 in
theorem check_calls (k lo hi : Int) (A : Option Addr) (n c : Nat) (ss : List ByteArray) (w : World) (hS : Strs w A n ss) (hn : n ≤ 8796093022208) :
    Calls Tryd.prog 18 #[.int .i64 k, fv lo hi A n c] w (IntB (chk k lo hi ss) w) := by
  have hb0 := (Below.refl w.heap.size w).alloc (Nat.le_refl _) (.cells #[.int .i64 lo, .int .i64 hi, .slice A n c] 24)
  have hr0 := Row.new w #[.int .i64 lo, .int .i64 hi, .slice A n c] 24
  have HR0 := Lib.hid hr0
  have HB0 := Lib.hid hb0
  have HM := Lib.hid (fun W => mcover_calls lo hi W)
  have HS := Lib.hid hS
  have hl := Lib.hid hS.len
  have ha0 := hr0.cell 0
  have ha1 := hr0.cell 1
  have hcl := covL_len lo hi
  rcases covE_or lo hi with he | he
  · have HC : Hid (chk k lo hi ss = if (covL lo hi).length ≠ n then 71 else if ∀ s ∈ ss, s.size = wid k then 0 else 72) := Lib.hid (by unfold chk; rw [if_neg (by omega), hl.out])
    rw [he] at HM
    clear he hb0 hr0 hS
    generalize covL lo hi = L at *
    go_enter Tryd.func18, Tryd.ntmps18
    go_wp2_with fail
    refine (HM.out _).mono ?_
    rintro e w1 ⟨v1, rfl, o1, b1⟩
    obtain ⟨B, d, rfl, _, _, _⟩ := OwnA.shape o1
    have HB1 := Lib.hid (HB0.out.trans (b1.mono HB0.out.size))
    have hr1 := HR0.out.below b1 HR0.out.lt
    have hc2 := hr1.cell 2
    clear o1 b1 hr1 ha0 ha1
    by_cases hln : L.length = n
    · have HC2 : Hid (chk k lo hi ss = if ∀ s ∈ ss, s.size = wid k then 0 else 72) := Lib.hid (by rw [HC.out, if_neg (by simp [hln])])
      have HS1 := Lib.hid (HS.out.below HB1.out)
      clear HC
      subst hln
      go_wp2
      go_loop [28] (fun i => ∃ j : Nat, i = .int .i64 (j : Int) ∧ j ≤ L.length ∧ Hid (∀ q, q < j → (ss.getD q ⟨#[]⟩).size = wid k)) (fun i => L.length - (intOf i).toNat)
      case atStart => exact ⟨0, rfl, by omega, Lib.hid (fun q h => absurd h (by omega))⟩
      case round =>
        obtain ⟨j, rfl, hj, hq⟩ := hrel
        by_cases hlt : j < L.length
        · obtain ⟨ad, rfl, _, hcell⟩ := HS1.out.at_ j hlt
          have HW := Lib.hid (fun W => width_calls k W)
          by_cases hz : (ss.getD j ⟨#[]⟩).size = wid k
          · have HQ : Hid (∀ q, q < j + 1 → (ss.getD q ⟨#[]⟩).size = wid k) := Lib.hid (fun q h => by
              rcases Nat.lt_or_ge q j with h1 | h1
              · exact hq.out q h1
              · obtain rfl : q = j := by omega
                exact hz)
            generalize ss.getD j ⟨#[]⟩ = x at *
            have hzi : ((x.size : Int) == (wid k : Int)) = true := by rw [beq_iff_eq]; omega
            have hzi' : ((x.size : Int) != (wid k : Int)) = false := by rw [bne, hzi]; rfl
            clear hq hz
            go_wp2_with (go_at_call 34; ((with_reducible refine (HW.out _).mono ?_); rintro e w' ⟨rfl, rfl⟩))
            go_round
            case rel => exact ⟨j + 1, by go_num, by omega, HQ⟩
            case measure => simp only [intOf]; omega
          · have HF : Hid (chk k lo hi ss = 72) := Lib.hid (by
              rw [HC2.out, if_neg]
              intro h
              exact hz (get_of (by rw [hl.out]; exact hlt) h))
            generalize ss.getD j ⟨#[]⟩ = x at *
            have hzi : ((x.size : Int) == (wid k : Int)) = false := by rw [beq_eq_false_iff_ne]; omega
            have hzi' : ((x.size : Int) != (wid k : Int)) = true := by rw [bne, hzi]; rfl
            clear hq hz
            go_wp2_with (go_at_call 34; ((with_reducible refine (HW.out _).mono ?_); rintro e w' ⟨rfl, rfl⟩))
            go_ret
            exact ⟨by rw [HF.out]; rfl, HB1.out⟩
        · have HF : Hid (chk k lo hi ss = 0) := Lib.hid (by
            rw [HC2.out, if_pos]
            exact all_of hl.out (fun q h => hq.out q (by omega)))
          clear hq
          go_wp2
          go_ret
          exact ⟨by rw [HF.out]; rfl, HB1.out⟩
    · have HF : Hid (chk k lo hi ss = 71) := Lib.hid (by rw [HC.out, if_pos hln])
      have hne : ((L.length : Int) == (n : Int)) = false := by rw [beq_eq_false_iff_ne]; omega
      have hne' : ((L.length : Int) != (n : Int)) = true := by rw [bne, hne]; rfl
      clear HC
      go_wp2
      go_ret
      exact ⟨by rw [HF.out]; rfl, HB1.out⟩
  · have HC : Hid (chk k lo hi ss = 10) := Lib.hid (by unfold chk; rw [if_pos (by omega)])
    rw [he] at HM
    clear he hb0 hr0 hS
    go_enter Tryd.func18, Tryd.ntmps18
    go_wp2_with fail
    refine (HM.out _).mono ?_
    rintro e w1 ⟨v1, rfl, o1, b1⟩
    obtain ⟨B, d, rfl, _, _, _⟩ := OwnA.shape o1
    have HB1 := Lib.hid (HB0.out.trans (b1.mono HB0.out.size))
    clear o1 b1
    go_wp2
    go_ret
    exact ⟨by rw [HC.out]; rfl, HB1.out⟩
theorem rwidth_calls (k : Int) (w : World) : Calls Tryd.prog 40 #[.int .i64 k] w fun e w' => e = .returned (.int .i64 (wid k : Int)) ∧ w = w' := by
  have hw : wid k = if k < 1 ∨ 32 < k then 32 else k.toNat := by unfold wid; rfl
  by_cases h1 : k < 1
  · rw [if_pos (.inl h1)] at hw
    rw [hw]
    go_enter Tryd.func40, Tryd.ntmps40
    go_wp2
    go_ret
    exact ⟨rfl, rfl⟩
  · by_cases h2 : 32 < k
    · rw [if_pos (.inr h2)] at hw
      rw [hw]
      go_enter Tryd.func40, Tryd.ntmps40
      go_wp2
      go_ret
      exact ⟨rfl, rfl⟩
    · rw [if_neg (by omega)] at hw
      rw [hw, show ((k.toNat : Nat) : Int) = k by omega]
      have h1' : decide (k < 1) = false := decide_eq_false h1
      clear hw
      go_enter Tryd.func40, Tryd.ntmps40
      go_wp2
      go_ret
      exact ⟨rfl, rfl⟩
set_option maxHeartbeats 2000000 in
theorem rcheck_calls (k lo hi : Int) (A : Option Addr) (n c : Nat) (ss : List ByteArray) (w : World) (hS : Strs w A n ss) (hn : n ≤ 8796093022208) :
    Calls Tryd.prog 22 #[.int .i64 k, fv lo hi A n c] w (IntB (chk k lo hi ss) w) := by
  have hb0 := (Below.refl w.heap.size w).alloc (Nat.le_refl _) (.cells #[.int .i64 lo, .int .i64 hi, .slice A n c] 24)
  have hr0 := Row.new w #[.int .i64 lo, .int .i64 hi, .slice A n c] 24
  have HR0 := Lib.hid hr0
  have HB0 := Lib.hid hb0
  have HM := Lib.hid (fun W => rcover_calls lo hi W)
  have HS := Lib.hid hS
  have hl := Lib.hid hS.len
  have ha0 := hr0.cell 0
  have ha1 := hr0.cell 1
  have hcl := covL_len lo hi
  rcases covE_or lo hi with he | he
  · have HC : Hid (chk k lo hi ss = if (covL lo hi).length ≠ n then 71 else if ∀ s ∈ ss, s.size = wid k then 0 else 72) := Lib.hid (by unfold chk; rw [if_neg (by omega), hl.out])
    rw [he] at HM
    clear he hb0 hr0 hS
    generalize covL lo hi = L at *
    go_enter Tryd.func22, Tryd.ntmps22
    go_wp2_with fail
    refine (HM.out _).mono ?_
    rintro e w1 ⟨v1, rfl, o1, b1⟩
    obtain ⟨B, d, rfl, _, _, _⟩ := OwnA.shape o1
    have HB1 := Lib.hid (HB0.out.trans (b1.mono HB0.out.size))
    have hr1 := HR0.out.below b1 HR0.out.lt
    have hc2 := hr1.cell 2
    clear o1 b1 hr1 ha0 ha1
    by_cases hln : L.length = n
    · have HC2 : Hid (chk k lo hi ss = if ∀ s ∈ ss, s.size = wid k then 0 else 72) := Lib.hid (by rw [HC.out, if_neg (by simp [hln])])
      have HS1 := Lib.hid (HS.out.below HB1.out)
      clear HC
      subst hln
      have HW := Lib.hid (fun W => rwidth_calls k W)
      go_wp2_with (go_at_call 40; ((with_reducible refine (HW.out _).mono ?_); rintro e w' ⟨rfl, rfl⟩))
      go_loop [8] (fun i => ∃ j : Nat, i = .int .i64 (j : Int) ∧ j ≤ L.length ∧ Hid (∀ q, q < j → (ss.getD q ⟨#[]⟩).size = wid k)) (fun i => L.length - (intOf i).toNat)
      case atStart => exact ⟨0, rfl, by omega, Lib.hid (fun q h => absurd h (by omega))⟩
      case round =>
        obtain ⟨j, rfl, hj, hq⟩ := hrel
        by_cases hlt : j < L.length
        · obtain ⟨ad, rfl, _, hcell⟩ := HS1.out.at_ j hlt
          by_cases hz : (ss.getD j ⟨#[]⟩).size = wid k
          · have HQ : Hid (∀ q, q < j + 1 → (ss.getD q ⟨#[]⟩).size = wid k) := Lib.hid (fun q h => by
              rcases Nat.lt_or_ge q j with h1 | h1
              · exact hq.out q h1
              · obtain rfl : q = j := by omega
                exact hz)
            generalize ss.getD j ⟨#[]⟩ = x at *
            have hzi : ((x.size : Int) == (wid k : Int)) = true := by rw [beq_iff_eq]; omega
            have hzi' : ((x.size : Int) != (wid k : Int)) = false := by rw [bne, hzi]; rfl
            clear hq hz
            go_wp2
            go_round
            case rel => exact ⟨j + 1, by go_num, by omega, HQ⟩
            case measure => simp only [intOf]; omega
          · have HF : Hid (chk k lo hi ss = 72) := Lib.hid (by
              rw [HC2.out, if_neg]
              intro h
              exact hz (get_of (by rw [hl.out]; exact hlt) h))
            generalize ss.getD j ⟨#[]⟩ = x at *
            have hzi : ((x.size : Int) == (wid k : Int)) = false := by rw [beq_eq_false_iff_ne]; omega
            have hzi' : ((x.size : Int) != (wid k : Int)) = true := by rw [bne, hzi]; rfl
            clear hq hz
            go_wp2
            go_ret
            exact ⟨by rw [HF.out]; rfl, HB1.out⟩
        · have HF : Hid (chk k lo hi ss = 0) := Lib.hid (by
            rw [HC2.out, if_pos]
            exact all_of hl.out (fun q h => hq.out q (by omega)))
          clear hq
          go_wp2
          go_ret
          exact ⟨by rw [HF.out]; rfl, HB1.out⟩
    · have HF : Hid (chk k lo hi ss = 71) := Lib.hid (by rw [HC.out, if_pos hln])
      have hne : ((L.length : Int) == (n : Int)) = false := by rw [beq_eq_false_iff_ne]; omega
      have hne' : ((L.length : Int) != (n : Int)) = true := by rw [bne, hne]; rfl
      clear HC
      go_wp2
      go_ret
      exact ⟨by rw [HF.out]; rfl, HB1.out⟩
  · have HC : Hid (chk k lo hi ss = 10) := Lib.hid (by unfold chk; rw [if_pos (by omega)])
    rw [he] at HM
    clear he hb0 hr0 hS
    go_enter Tryd.func22, Tryd.ntmps22
    go_wp2_with fail
    refine (HM.out _).mono ?_
    rintro e w1 ⟨v1, rfl, o1, b1⟩
    obtain ⟨B, d, rfl, _, _, _⟩ := OwnA.shape o1
    have HB1 := Lib.hid (HB0.out.trans (b1.mono HB0.out.size))
    clear o1 b1
    go_wp2
    go_ret
    exact ⟨by rw [HC.out]; rfl, HB1.out⟩
/-! ### Root -/
/-- The box of a call's parameter, and all that lay before. -/
structure Bx (w : World) (cs : Array Value) (T : TypeId) (W : World) : Prop where
  bel : Below w.heap.size w W
  row : Row W w.heap.size cs T
theorem Bx.new (w : World) (cs : Array Value) (T : TypeId) : Bx w cs T (w.alloc (.cells cs T)) := ⟨(Below.refl _ w).alloc (Nat.le_refl _) _, Row.new w cs T⟩
theorem Bx.drew {w W : World} {cs : Array Value} {T : TypeId} (h : Bx w cs T W) : Bx w cs T W.drew := ⟨h.bel.drew, h.row.drew⟩
theorem Bx.drewN {w W : World} {cs : Array Value} {T : TypeId} (h : Bx w cs T W) (k : Nat) : Bx w cs T (W.drewN k) := ⟨⟨h.bel.os, h.bel.tape, h.bel.output, h.bel.size, h.bel.block⟩, h.row⟩
theorem Bx.call {w W W' : World} {cs : Array Value} {T : TypeId} (h : Bx w cs T W) (b : Below W.heap.size W W') : Bx w cs T W' := ⟨h.bel.trans (b.mono h.bel.size), h.row.below b h.row.lt⟩
theorem Bx.cell {w W : World} {cs : Array Value} {T : TypeId} (h : Bx w cs T W) (j : Nat) : W.cell? ⟨w.heap.size, j, none⟩ = cs[j]? := h.row.cell j
theorem wid_wid (k : Int) : wid (wid k : Int) = wid k := by have := wid_le k; unfold wid at *; split <;> split <;> omega
theorem foldH_wid (k : Int) (ss : List ByteArray) : foldH (wid k : Int) ss = foldH k ss := by
  have h1 : ∀ x, cut (wid k : Int) x = cut k x := fun x => by unfold cut; rw [wid_wid]
  unfold foldH emptyH
  have h2 : nodeH (wid k : Int) = nodeH k := by funext l r; exact h1 _
  rw [h1, h2]
def rootS (k lo hi : Int) (ss : List ByteArray) : ByteArray := if chk k lo hi ss ≠ 0 ∨ lo ≠ 0 then ⟨#[]⟩ else foldH k ss
def rootE (k lo hi : Int) (ss : List ByteArray) : Int := if chk k lo hi ss ≠ 0 then chk k lo hi ss else if lo ≠ 0 then 10 else 0
def StrInt (s : ByteArray) (z : Int) (w : World) (e : Ending) (w' : World) : Prop := e = .returned (.tuple #[.string s, .int .i64 z]) ∧ Below w.heap.size w w'
theorem chk_fit {k lo hi : Int} {ss : List ByteArray} (h : chk k lo hi ss = 0) : ∀ s ∈ ss, s.size = wid k := by
  unfold chk at h
  split at h
  · omega
  · split at h
    · omega
    · split at h
      · assumption
      · omega
theorem foldm_any (k : Int) (A : Option Addr) (n c : Nat) (ss : List ByteArray) (w : World) (hS : Strs w A n ss) (hc : n ≤ c) (hn : n ≤ 8796093022208) (hs : Fit ss) (hT : Tab w) :
    Calls Tryd.prog 33 #[.int .i64 k, .slice A n c] w (Gives (foldH k ss) w) := by
  by_cases h0 : n = 0
  · subst h0
    obtain rfl : ss = [] := List.eq_nil_of_length_eq_zero hS.len
    exact Fold.fold_nil k A c w hT
  · exact Fold.fold_calls k A n c ss w hS hc (by omega) hn hs hT
theorem foldr_any (k : Int) (A : Option Addr) (n c : Nat) (ss : List ByteArray) (w : World) (hS : Strs w A n ss) (hc : n ≤ c) (hn : n ≤ 8796093022208) (hs : ∀ s ∈ ss, s.size ≤ 70000000000000) (hT : RTab w) :
    Calls Tryd.prog 35 #[.int .i64 k, .slice A n c] w (Gives (foldH k ss) w) := by
  by_cases h0 : n = 0
  · subst h0
    obtain rfl : ss = [] := List.eq_nil_of_length_eq_zero hS.len
    exact Fold.rfold_nil k A c w hT
  · exact Fold.rfold_calls k A n c ss w hS hc (by omega) hn hs hT
set_option maxHeartbeats 2000000 in
theorem mroot_calls (k lo hi : Int) (A : Option Addr) (n c : Nat) (ss : List ByteArray) (w : World) (hS : Strs w A n ss) (hnc : n ≤ c) (hn : n ≤ 8796093022208) (hT : Tab w) :
    Calls Tryd.prog 11 #[.int .i64 k, fv lo hi A n c] w (StrInt (rootS k lo hi ss) (rootE k lo hi ss) w) := by
  have hb0 := (Below.refl w.heap.size w).alloc (Nat.le_refl _) (.cells #[.int .i64 lo, .int .i64 hi, .slice A n c] 24)
  have hr0 := Row.new w #[.int .i64 lo, .int .i64 hi, .slice A n c] 24
  have HR0 := Lib.hid hr0
  have HB0 := Lib.hid hb0
  have HK := Lib.hid (check_calls k lo hi A n c ss _ (hS.below hb0) hn)
  have ha0 := hr0.cell 0
  have ha1 := hr0.cell 1
  have ha2 := hr0.cell 2
  have HS := Lib.hid hS
  have HT := Lib.hid hT
  by_cases hz : chk k lo hi ss = 0
  · have HFIT := Lib.hid (chk_fit hz)
    have hwl := wid_le k
    by_cases hlo : lo = 0
    · have HA1 : Hid (rootS k lo hi ss = foldH (wid k : Int) ss) := Lib.hid (by unfold rootS; rw [if_neg (by rw [hz]; simp [hlo]), foldH_wid])
      have HA2 : Hid (rootE k lo hi ss = 0) := Lib.hid (by unfold rootE; rw [if_neg (by rw [hz]; simp), if_neg (by simp [hlo])])
      rw [HA1.out, HA2.out]
      rw [hz] at HK
      clear hb0 hr0 hS hT hz
      subst hlo
      go_enter Tryd.func11, Tryd.ntmps11
      go_wp2_with fail
      refine HK.out.mono ?_
      rintro e w1 ⟨rfl, b1⟩
      have hbx := (Bx.new w #[.int .i64 0, .int .i64 hi, .slice A n c] 24).call b1
      have hc0 := hbx.cell 0
      have hc2 := hbx.cell 2
      have HFO : Hid (∀ W, Bx w #[.int .i64 0, .int .i64 hi, .slice A n c] 24 W → Calls Tryd.prog 33 #[.int .i64 (wid k : Int), .slice A n c] W (fun e w' => e = .returned (.string (foldH (wid k : Int) ss)) ∧ Bx w #[.int .i64 0, .int .i64 hi, .slice A n c] 24 w')) :=
        Lib.hid (fun W hW => (foldm_any _ A n c ss W (HS.out.below hW.bel) hnc hn (fun s h => by have := HFIT.out s h; omega) (HT.out.below hW.bel)).mono fun e w' h => ⟨h.1, hW.call h.2⟩)
      clear b1 ha0 ha1 ha2
      generalize foldH (wid k : Int) ss = F at *
      go_wp2_with fail
      go_region_held3 (fun w' => w'.cell? ⟨w.heap.size, 2, none⟩ = some (.slice A n c) ∧ Bx w #[.int .i64 0, .int .i64 hi, .slice A n c] 24 w') ((refine ⟨?_, ?_⟩ <;> (first | assumption | exact Bx.drew (by assumption) | exact Bx.cell (by assumption) 2 | exact Bx.cell (Bx.drew (by assumption)) 2)))
        (first | (go_at_call 34; (with_reducible refine (width_calls k _).mono ?_); rintro e _ ⟨rfl, rfl⟩) | (go_at_call 33; (with_reducible refine (HFO.out _ (by first | assumption | exact Bx.drew (by assumption))).mono ?_); rintro e w2 ⟨rfl, hb2⟩))
      all_goals go_wp2
      all_goals go_ret2
      all_goals exact ⟨rfl, hb2.bel⟩
    · have HA1 : Hid (rootS k lo hi ss = ⟨#[]⟩) := Lib.hid (by unfold rootS; rw [if_pos (.inr hlo)])
      have HA2 : Hid (rootE k lo hi ss = 10) := Lib.hid (by unfold rootE; rw [if_neg (by rw [hz]; simp), if_pos hlo])
      rw [HA1.out, HA2.out]
      rw [hz] at HK
      have hlo1 : (lo == 0) = false := by rw [beq_eq_false_iff_ne]; exact hlo
      have hlo2 : (lo != 0) = true := by rw [bne, hlo1]; rfl
      clear hb0 hr0 hS hT hz
      go_enter Tryd.func11, Tryd.ntmps11
      go_wp2_with fail
      refine HK.out.mono ?_
      rintro e w1 ⟨rfl, b1⟩
      have hbx := (Bx.new w #[.int .i64 lo, .int .i64 hi, .slice A n c] 24).call b1
      have hc0 := hbx.cell 0
      have HBX := Lib.hid hbx
      clear b1 ha0 ha1 ha2 hbx
      go_wp2
      go_ret2
      exact ⟨rfl, HBX.out.bel⟩
  · have HA1 : Hid (rootS k lo hi ss = ⟨#[]⟩) := Lib.hid (by unfold rootS; rw [if_pos (.inl hz)])
    have HA2 : Hid (rootE k lo hi ss = chk k lo hi ss) := Lib.hid (by unfold rootE; rw [if_pos hz])
    rw [HA1.out, HA2.out]
    generalize chk k lo hi ss = z at *
    have hlo1 : (z == 0) = false := by rw [beq_eq_false_iff_ne]; exact hz
    have hlo2 : (z != 0) = true := by rw [bne, hlo1]; rfl
    clear hb0 hr0 hS hT hz HA1 HA2
    go_enter Tryd.func11, Tryd.ntmps11
    go_wp2_with fail
    refine HK.out.mono ?_
    rintro e w1 ⟨rfl, b1⟩
    have HBX := Lib.hid ((Bx.new w #[.int .i64 lo, .int .i64 hi, .slice A n c] 24).call b1)
    clear b1 ha0 ha1 ha2
    go_wp2
    go_ret2
    exact ⟨rfl, HBX.out.bel⟩
set_option maxHeartbeats 2000000 in
theorem rroot_calls (k lo hi : Int) (A : Option Addr) (n c : Nat) (ss : List ByteArray) (w : World) (hS : Strs w A n ss) (hnc : n ≤ c) (hn : n ≤ 8796093022208) (hT : RTab w) :
    Calls Tryd.prog 13 #[.int .i64 k, fv lo hi A n c] w (StrInt (rootS k lo hi ss) (rootE k lo hi ss) w) := by
  have hb0 := (Below.refl w.heap.size w).alloc (Nat.le_refl _) (.cells #[.int .i64 lo, .int .i64 hi, .slice A n c] 24)
  have hr0 := Row.new w #[.int .i64 lo, .int .i64 hi, .slice A n c] 24
  have HK := Lib.hid (rcheck_calls k lo hi A n c ss _ (hS.below hb0) hn)
  have ha0 := hr0.cell 0
  have ha1 := hr0.cell 1
  have ha2 := hr0.cell 2
  have HS := Lib.hid hS
  have HT := Lib.hid hT
  by_cases hz : chk k lo hi ss = 0
  · have HFIT := Lib.hid (chk_fit hz)
    have hwl := wid_le k
    by_cases hlo : lo = 0
    · have HA1 : Hid (rootS k lo hi ss = foldH k ss) := Lib.hid (by unfold rootS; rw [if_neg (by rw [hz]; simp [hlo])])
      have HA2 : Hid (rootE k lo hi ss = 0) := Lib.hid (by unfold rootE; rw [if_neg (by rw [hz]; simp), if_neg (by simp [hlo])])
      rw [HA1.out, HA2.out]
      rw [hz] at HK
      clear hb0 hr0 hS hT hz
      subst hlo
      go_enter Tryd.func13, Tryd.ntmps13
      go_wp2_with fail
      refine HK.out.mono ?_
      rintro e w1 ⟨rfl, b1⟩
      have hbx := (Bx.new w #[.int .i64 0, .int .i64 hi, .slice A n c] 24).call b1
      have hc0 := hbx.cell 0
      have hc2 := hbx.cell 2
      have HFO := Lib.hid (foldr_any k A n c ss w1 (HS.out.below hbx.bel) hnc hn (fun s h => by have := HFIT.out s h; omega) (HT.out.below hbx.bel))
      have HBX := Lib.hid hbx
      clear b1 ha0 ha1 ha2 hbx
      generalize foldH k ss = F at *
      go_wp2_with fail
      refine HFO.out.mono ?_
      rintro e w2 ⟨rfl, b2⟩
      have HB2 := Lib.hid (HBX.out.call b2)
      clear b2
      go_wp2
      go_ret2
      exact ⟨rfl, HB2.out.bel⟩
    · have HA1 : Hid (rootS k lo hi ss = ⟨#[]⟩) := Lib.hid (by unfold rootS; rw [if_pos (.inr hlo)])
      have HA2 : Hid (rootE k lo hi ss = 10) := Lib.hid (by unfold rootE; rw [if_neg (by rw [hz]; simp), if_pos hlo])
      rw [HA1.out, HA2.out]
      rw [hz] at HK
      have hlo1 : (lo == 0) = false := by rw [beq_eq_false_iff_ne]; exact hlo
      have hlo2 : (lo != 0) = true := by rw [bne, hlo1]; rfl
      clear hb0 hr0 hS hT hz
      go_enter Tryd.func13, Tryd.ntmps13
      go_wp2_with fail
      refine HK.out.mono ?_
      rintro e w1 ⟨rfl, b1⟩
      have hbx := (Bx.new w #[.int .i64 lo, .int .i64 hi, .slice A n c] 24).call b1
      have hc0 := hbx.cell 0
      have HBX := Lib.hid hbx
      clear b1 ha0 ha1 ha2 hbx
      go_wp2
      go_ret2
      exact ⟨rfl, HBX.out.bel⟩
  · have HA1 : Hid (rootS k lo hi ss = ⟨#[]⟩) := Lib.hid (by unfold rootS; rw [if_pos (.inl hz)])
    have HA2 : Hid (rootE k lo hi ss = chk k lo hi ss) := Lib.hid (by unfold rootE; rw [if_pos hz])
    rw [HA1.out, HA2.out]
    generalize chk k lo hi ss = z at *
    have hlo1 : (z == 0) = false := by rw [beq_eq_false_iff_ne]; exact hz
    have hlo2 : (z != 0) = true := by rw [bne, hlo1]; rfl
    clear hb0 hr0 hS hT hz HA1 HA2
    go_enter Tryd.func13, Tryd.ntmps13
    go_wp2_with fail
    refine HK.out.mono ?_
    rintro e w1 ⟨rfl, b1⟩
    have HBX := Lib.hid ((Bx.new w #[.int .i64 lo, .int .i64 hi, .slice A n c] 24).call b1)
    clear b1 ha0 ha1 ha2
    go_wp2
    go_ret2
    exact ⟨rfl, HBX.out.bel⟩
end Go.Proofs.YtahkpcbemnfllaaDoor.Comp
