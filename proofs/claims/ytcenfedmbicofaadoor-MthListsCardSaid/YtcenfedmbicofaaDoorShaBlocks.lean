/- sha.blocks: its walk: what is whole of a text is taken, block by block. -/
import Derived.Test.YtcenfedmbicofaaDoorShaTake
set_option linter.unusedVariables false
set_option linter.unusedSimpArgs false
namespace Go.Proofs.YtcenfedmbicofaaDoor.ShaBlocks
open Go.RowKit Go.Proofs.YtcenfedmbicofaaDoor.Base Go.Proofs.YtcenfedmbicofaaDoor.ShaPlain Go.Proofs.YtcenfedmbicofaaDoor.ShaRot Go.Proofs.YtcenfedmbicofaaDoor.Arr Go.Proofs.YtcenfedmbicofaaDoor.Mem Go.Proofs.YtcenfedmbicofaaDoor.ShaWords Go.Proofs.YtcenfedmbicofaaDoor.ShaTake

/-- The state behind the first n blocks of a text. -/
def feed (K : List Nat) (s : St) (bs : List Nat) : Nat → St
  | 0 => s
  | n + 1 => comp K (feed K s bs n) ((bs.drop (64 * n)).take 64)
theorem feed_ok {K : List Nat} {s : St} (h : s.Ok) (bs : List Nat) (n : Nat) : (feed K s bs n).Ok := by
  cases n with
  | zero => exact h
  | succ n => exact comp_ok _ _ _
/-- The method 'take' of the state that lies at the beginning of the block b. -/
def takeOf (b : Nat) : Value := .func (.func 83) #[.pointer (some ⟨b, 0, none⟩)] #[]
def Left (K : List Nat) (s : St) (bs : List Nat) (b : Nat) (r : List Nat) (n : Int) (w : World) (e : Ending) (w' : World) : Prop :=
  ∃ u : ByteArray, e = .returned (.string u) ∧ nbN u = bs.drop (64 * (bs.length / 64)) ∧ Grew w w' (some b) ∧ Row w' b (hcells (feed K s bs (bs.length / 64)) r n) 110
set_option maxHeartbeats 1000000 in
set_option maxRecDepth 1000000 in
theorem blocks_calls (K : List Nat) (hK : Small K) (s : St) (hs : s.Ok) (x : ByteArray) (hx : x.size ≤ 1000000000000000) (b : Nat) (hbK : b ≠ 3) (r : List Nat) (hr : r.length = 64) (n : Int) (w : World)
    (hT : Table K w) (hb : Row w b (hcells s r n) 110) :
    Calls Tryd.prog 84 #[.string x, takeOf b] w (Left K s (nbN x) b r n w) := by
  have HT : Hid (∀ (k : Nat) (u : ByteArray) (wx : World), u.size = 64 → Grew w wx (some b) → Row wx b (hcells (feed K s (nbN x) k) r n) 110 →
      Calls Tryd.prog 83 #[.pointer (some ⟨b, 0, none⟩), .string u] wx (Took K (feed K s (nbN x) k) (nbN u) b r n wx)) := Lib.hid fun k u wx hu hg hbx =>
    take_calls K hK _ (feed_ok hs _ k) u hu b hbK r hr n wx (hT.grown hg (by simpa using fun e => hbK e.symm)) hbx
  have HB := Lib.hid hb
  have HXL := Lib.hid (nbN_length x)
  clear hb hT
  unfold takeOf
  go_enter Tryd.func84, Tryd.ntmps84
  go_wp2
  go_loopw [0] (fun s0 wx => ∃ (k : Nat) (u : ByteArray), k ≤ x.size / 64 ∧ s0 = .string u ∧ Hid (nbN u = (nbN x).drop (64 * k)) ∧ u.size + 64 * k = x.size ∧ Grew w wx (some b) ∧ Row wx b (hcells (feed K s (nbN x) k) r n) 110) (fun s0 _ => match s0 with | .string u => u.size | _ => 0)
  case atStart => exact ⟨0, x, by omega, rfl, Lib.hid (by simp), by omega, Grew.refl _ _, HB.out⟩
  case round =>
    obtain ⟨k, u, hk, rfl, hu, hsz, hg, hb⟩ := hrel
    by_cases hlt : 64 ≤ u.size
    · have hlt' : (64 : Int) ≤ u.size := by omega
      have hsx : (u.extract 0 64).size = 64 := by rw [ByteArray.size_extract]; omega
      have HC := Lib.hid (HT.out k (u.extract 0 64) wr hsx hg hb)
      have hnb : nbN (u.extract 0 64) = ((nbN x).drop (64 * k)).take 64 := by rw [nbN_extract, hu.out, List.extract_eq_take_drop]; rfl
      have hnb2 : nbN (u.extract 64 u.size) = (nbN x).drop (64 * (k + 1)) := by
        rw [nbN_extract, hu.out, List.extract_eq_take_drop, List.drop_drop, List.take_of_length_le (by rw [List.length_drop, nbN_length]; omega)]
        congr 1
      have hs2 : (u.extract 64 u.size).size = u.size - 64 := by rw [ByteArray.size_extract]; omega
      have HN := Lib.hid hnb
      have HN2 := Lib.hid hnb2
      have HG := Lib.hid hg
      have HS2 := Lib.hid hs2
      clear hnb hnb2 hu hsx hb hg hs2
      go_wp2_with fail
      refine HC.out.mono ?_; rintro e w' ⟨rfl, hg', hb'⟩
      rw [HN.out] at hb'
      go_wp2
      go_roundw
      case rel => exact ⟨k + 1, u.extract 64 u.size, by omega, rfl, HN2, by rw [HS2.out]; omega, HG.out.andThen hg' (fun j e => .inr e), hb'⟩
      case measure => have := HS2.out; simp; omega
    · have hlt' : ¬ (64 : Int) ≤ u.size := by omega
      have hkq : k = x.size / 64 := by omega
      rw [hkq, ← HXL.out] at hu hb
      go_wp2
      go_ret
      exact ⟨u, rfl, hu.out, hg, hb⟩
end Go.Proofs.YtcenfedmbicofaaDoor.ShaBlocks
