/- The document's Cover: its walk. -/
import Derived.Test.YtahkpcbemnfllaaDoorCover
import Derived.WalkKit
import Derived.BigQuiet
import Derived.Deep.QuietTactic
import Derived.Lib.Hide
import Derived.IntWalk
import Derived.Outline
set_option linter.unusedVariables false
set_option linter.unusedSimpArgs false
namespace Go.Proofs.YtahkpcbemnfllaaDoor.Cover
open Go.RowKit Go.Proofs.YtahkpcbemnfllaaDoor.Base Go.Proofs.YtahkpcbemnfllaaDoor.Nums Go.Proofs.YtahkpcbemnfllaaDoor.Cov Go.Proofs.YtahkpcbemnfllaaDoor.Mem Go.Proofs.YtahkpcbemnfllaaDoor.Lst

theorem greatest_calls (p hi : Nat) (hp : p < hi) (hh : hi ≤ 4611686018427387904) (w : World) : Calls Tryd.prog 57 #[.int .i64 (p : Int), .int .i64 (hi : Int)] w fun e w' => e = .returned (.int .i64 (lev p hi : Int)) ∧ w' = w := by
  have H62 := Lib.hid (lev_62 p hi)
  go_enter Tryd.func57, Tryd.ntmps57
  go_wp2
  go_loop [5] (fun a => ∃ (k : Nat), a = .int .i64 k ∧ Hid (Cov.Good p hi k) ∧ k ≤ 62) (fun a => 62 - (intOf a).toNat)
  case atStart => exact ⟨0, rfl, Lib.hid ⟨by omega, by simp, by simp; omega⟩, by omega⟩
  case round =>
    obtain ⟨k, rfl, hg, hk⟩ := hrel
    have h36 : IntKind.u64.wrap (k : Int) = (k : Int) := u64_in (by omega) (by omega)
    by_cases h1 : k < 62
    · have h1' : (k : Int) < 62 := by omega
      have hQ0 := Nat.pow_le_pow_right (show 0 < 2 by decide) (show k + 1 ≤ 62 by omega)
      have hQ1 := Nat.two_pow_pos (k + 1)
      rw [← big62] at hQ0
      have hw : wrap64 (2 * 2 ^ k) = ((2 ^ (k + 1) : Nat) : Int) := by
        have e : (2 : Int) * 2 ^ k = ((2 ^ (k + 1) : Nat) : Int) := by rw [Int.natCast_pow, Int.pow_succ, Int.mul_comm]; rfl
        rw [e]
        exact wrap_in (by omega) (by omega)
      have hgd : Hid (Cov.Good p hi (k + 1) ↔ p % 2 ^ (k + 1) = 0 ∧ 2 ^ (k + 1) ≤ hi - p) :=
        Lib.hid ⟨fun h => ⟨Nat.mod_eq_zero_of_dvd h.2.1, h.2.2⟩, fun h => ⟨by omega, Nat.dvd_of_mod_eq_zero h.1, h.2⟩⟩
      generalize 2 ^ (k + 1) = Q at *
      have hz : ¬ (Q : Int) = 0 := by omega
      have hzn : ¬ Q = 0 := by omega
      by_cases hd : p % Q = 0
      · have hdi : (p : Int) % (Q : Int) = 0 := by rw [← Int.natCast_emod, hd]; rfl
        by_cases hle : Q ≤ hi - p
        · have hle' : (Q : Int) ≤ (hi : Int) - (p : Int) := by omega
          have HG := Lib.hid (hgd.out.2 ⟨hd, hle⟩)
          clear hgd hg
          go_wp2
          go_round
          case rel => exact ⟨k + 1, by go_num, HG, by omega⟩
          case measure => simp [intOf]; omega
        · have hle' : decide ((Q : Int) ≤ (hi : Int) - (p : Int)) = false := decide_eq_false (by omega)
          have hle2 : ¬ (Q : Int) ≤ (hi : Int) - (p : Int) := by omega
          have HL := Lib.hid (lev_eq hp hh hg.out (fun h => hle (hgd.out.1 h).2))
          clear hgd hg hle
          go_wp2
          go_ret
          exact ⟨by rw [HL.out]; rfl, rfl⟩
      · have hdi : ((p : Int) % (Q : Int) == 0) = false := by rw [beq_eq_false_iff_ne, ← Int.natCast_emod]; omega
        have HL := Lib.hid (lev_eq hp hh hg.out (fun h => hd (hgd.out.1 h).1))
        clear hgd hg
        go_wp2
        go_ret
        exact ⟨by rw [HL.out]; rfl, rfl⟩
    · have h1' : decide ((k : Int) < 62) = false := decide_eq_false (by omega)
      have HL := Lib.hid (lev_eq hp hh hg.out (fun h => by have := h.1; omega))
      have h1'' : ¬ (k : Int) < 62 := by omega
      clear hg h1
      go_wp2
      go_ret
      exact ⟨by rw [HL.out]; rfl, rfl⟩
def RNot10 (w : World) (e : Ending) (w' : World) : Prop := e = .returned (.tuple #[.slice none 0 0, .int .i64 10]) ∧ w' = w
theorem rcover_no (lo hi : Int) (w : World) (h : Refused lo hi) : Calls Tryd.prog 44 #[.int .i64 lo, .int .i64 hi] w (Not10 w) := by
  unfold Refused at h
  rcases Int.lt_or_le lo 0 with h1 | h1
  · go_enter Tryd.func44, Tryd.ntmps44
    go_wp2
    go_ret2
    exact ⟨rfl, rfl⟩
  · rcases Int.lt_or_le hi lo with h2 | h2
    · go_enter Tryd.func44, Tryd.ntmps44
      go_wp2
      go_ret2
      exact ⟨rfl, rfl⟩
    · have h3 : 4611686018427387904 < hi := by omega
      go_enter Tryd.func44, Tryd.ntmps44
      go_wp2
      go_ret2
      exact ⟨rfl, rfl⟩
/-- Between two rounds. -/
def Sofar (lo hi q : Nat) (v : Value) (w wr : World) : Prop :=
  q ≤ hi ∧ ∃ pre, greedy lo hi = pre ++ greedy q hi ∧ OwnA wr w.heap.size v pre ∧ (v = .slice none 0 0 ↔ pre = []) ∧ Below w.heap.size w wr
theorem sofar_step {lo hi q : Nat} {v : Value} {w wr : World} (h : Sofar lo hi q v w wr) (hl : lo ≤ hi) (hh : hi ≤ 4611686018427387904) (hlt : q < hi) :
    ∃ pre, OwnA wr w.heap.size v pre ∧ Below w.heap.size w wr ∧ pre.length + 1 ≤ 8796093022208 ∧
      ∀ v1 w1, OwnA w1 w.heap.size v1 (pre ++ [(lev q hi, q / 2 ^ lev q hi)]) → Below w.heap.size w w1 → v1 ≠ .slice none 0 0 → Sofar lo hi (q + 2 ^ lev q hi) v1 w w1 := by
  obtain ⟨hq, pre, hp, ho, hn, hb⟩ := h
  have hlen := congrArg List.length hp
  rw [List.length_append] at hlen
  have := greedy_len lo hi hl hh
  refine ⟨pre, ho, hb, by omega, fun v1 w1 ho1 hb1 hv1 => ⟨lev_next hlt hh, _, ?_, ho1, ⟨fun e => absurd e hv1, fun e => by simp at e⟩, hb1⟩⟩
  rw [hp, greedy_step hlt]; simp
set_option maxHeartbeats 1000000 in
theorem rcover_yes (lo hi : Nat) (w : World) (hl : lo ≤ hi) (hh : hi ≤ 4611686018427387904) : Calls Tryd.prog 44 #[.int .i64 (lo : Int), .int .i64 (hi : Int)] w (Gave (greedy lo hi) w) := by
  have hh' : ¬ (4611686018427387904 : Int) < (hi : Int) := by omega
  have hl' : ¬ (hi : Int) < (lo : Int) := by omega
  have hl0 : ¬ (lo : Int) < 0 := by omega
  have hd0 : decide ((lo : Int) < 0) = false := decide_eq_false hl0
  go_enter Tryd.func44, Tryd.ntmps44
  go_wp2
  go_loopw [6, 7] (fun s p wr => ∃ (v : Value) (q : Nat), v = s ∧ p = .int .i64 q ∧ Hid (Sofar lo hi q v w wr)) (fun _ p _ => hi - (intOf p).toNat)
  case atStart => exact ⟨_, lo, rfl, rfl, Lib.hid ⟨hl, [], by simp, World.ownsRow_nil _ _ _ _, by simp, Below.refl _ _⟩⟩
  case round =>
    obtain ⟨v, q, rfl, rfl, hs⟩ := hrel
    by_cases hlt : q < hi
    · obtain ⟨pre, ho, hb, hle, hnx⟩ := sofar_step hs.out hl hh hlt
      have h62 := lev_62 q hi
      have h36 : IntKind.u64.wrap (lev q hi : Int) = (lev q hi : Int) := u64_in (by omega) (by omega)
      have hQ1 := lev_pos q hi
      have hQ2 := lev_next hlt hh
      have hw : wrap64 (2 ^ lev q hi) = ((2 ^ lev q hi : Nat) : Int) := by
        have e : (2 : Int) ^ lev q hi = ((2 ^ lev q hi : Nat) : Int) := by rw [Int.natCast_pow]; rfl
        rw [e]
        exact wrap_in (by omega) (by omega)
      have he : (q : Int) / 2 ^ lev q hi = ((q / 2 ^ lev q hi : Nat) : Int) := by rw [Int.natCast_ediv, Int.natCast_pow]; rfl
      have HNX := Lib.hid hnx
      have HE := Lib.hid he
      have hz := hb.size
      have HG := Lib.hid (fun W => greatest_calls q hi hlt hh W)
      clear hnx he hs
      generalize hQ : 2 ^ lev q hi = Q at *
      go_wp2_with (first
        | (go_at_call 57; ((with_reducible refine (HG.out _).mono ?_); rintro e w' ⟨rfl, rfl⟩))
        | (at_builtin; refine wpList_appA w.heap.size rfl (.tmp 27) (.tmp 34) rfl v pre (lev q hi, q / Q) rfl HE.out rfl rfl ho hb hz hle ?_; intro v1 w1 ho1 hb1 _ _ hv1; have HS := Lib.hid (HNX.out v1 w1 ho1 hb1 hv1); clear ho hb ho1 hb1 hv1))
      go_roundw
      case rel => exact ⟨_, q + Q, rfl, by go_num, HS⟩
      case measure => simp only [intOf]; omega
    · have HF : Hid (∀ e, e = .returned (.tuple #[v, .int .i64 0]) → Gave (greedy lo hi) w e wr) := by
        refine Lib.hid fun e he => ?_
        obtain ⟨hq, pre, hp, ho, hn, hb⟩ := hs.out
        rw [greedy_end hlt, List.append_nil] at hp
        exact ⟨v, he, by rw [hp]; exact ho, by rw [hp]; exact hn, hb⟩
      clear hs
      go_wp2
      go_ret2
      exact HF.out _ rfl
end Go.Proofs.YtahkpcbemnfllaaDoor.Cover
