/- MacKeyID, MacSum, MacDerive: their walks. -/
import Derived.Test.YtkhcinnpfpkhnaaDoorMacDerive
import Derived.Test.YtkhcinnpfpkhnaaDoorShaLaws
set_option linter.unusedVariables false
set_option linter.unusedSimpArgs false
namespace Go.Proofs.YtkhcinnpfpkhnaaDoor.MacLaws
open Go.RowKit Go.Lib Go.Proofs.YtkhcinnpfpkhnaaDoor.Base Go.Proofs.YtkhcinnpfpkhnaaDoor.ShaPlain Go.Proofs.YtkhcinnpfpkhnaaDoor.Mem Go.Proofs.YtkhcinnpfpkhnaaDoor.ShaDig Go.Proofs.YtkhcinnpfpkhnaaDoor.Mac Go.Proofs.YtkhcinnpfpkhnaaDoor.MacRef Go.Proofs.YtkhcinnpfpkhnaaDoor.MacSame Go.Proofs.YtkhcinnpfpkhnaaDoor.MacDerive Go.Proofs.YtkhcinnpfpkhnaaDoor.ShaLaws

def AllTrue (w : World) (e : Ending) (w' : World) : Prop := e = .returned (.bool true) ∧ Below w.heap.size w w'
theorem macKeyID_walk (name secret : ByteArray) (w : World) (hn : name.size ≤ 140737488351232) (hs : secret.size ≤ 140737488351232) (h1 : ∀ i : Nat, i < 8 → w.cell? ⟨0, i, none⟩ = some (.int .u32 (Ints I0.list i))) (h2 : ∀ i : Nat, i < 64 → w.cell? ⟨2, i, none⟩ = some (.int .u32 (Ints K0 i)))
    (h3 : ∀ i : Nat, i < 8 → w.cell? ⟨1, i, none⟩ = some (.int .u32 (Ints I0.list i))) (h4 : ∀ i : Nat, i < 64 → w.cell? ⟨3, i, none⟩ = some (.int .u32 (Ints K0 i))) :
    Calls Tryd.prog 11 #[.string name, .string secret] w fun e w' => e = .returned (.bool true) ∧ Below w.heap.size w w' := by
  obtain ⟨hT, hR⟩ := both h1 h2 h3 h4
  clear h1 h2 h3 h4
  have HA := Lib.hid (keyID_calls name secret hn hs w hT)
  have HB : Hid (∀ W, Below w.heap.size w W → Calls Tryd.prog 33 #[.string name, .string secret] W (Gives (keyid name secret) W)) := Lib.hid fun W h => refKeyID_calls name secret hn hs W (hR.below h)
  generalize keyid name secret = d at *
  clear hT hR
  go_enter Tryd.func11, Tryd.ntmps11
  go_wp2_with fail
  refine HA.out.mono ?_; rintro e w1 ⟨rfl, hb1⟩
  go_wp2_with fail
  refine (HB.out _ hb1).mono ?_; rintro e w2 ⟨rfl, hb2⟩
  go_wp2
  go_ret
  exact ⟨by simp, hb1.trans (hb2.mono hb1.size)⟩
set_option maxHeartbeats 1000000 in
theorem macSum_in (key msg : ByteArray) (r : Bool) (w : World) (hk : key.size ≤ 140737488351232) (hm : msg.size ≤ 140737488351232) (hr : r = true ↔ key = msg) (hT : Tab w) (hR : RTab w) :
    Calls Tryd.prog 12 #[.string key, .string msg] w (AllTrue w) := by
  have HA : Hid (∀ W, Below w.heap.size w W → Calls Tryd.prog 30 #[.string key, .string msg] W (Gives (mac key msg) W)) := Lib.hid fun W h => macSum_calls key msg (by omega) (by omega) W (hT.below h)
  have HB : Hid (∀ W, Below w.heap.size w W → Calls Tryd.prog 35 #[.string key, .string msg] W (Gives (mac key msg) W)) := Lib.hid fun W h => refMac_calls key msg (by omega) (by omega) W (hR.below h)
  have HS := Lib.hid (same_calls key msg (by omega) (by omega) w r hr)
  have HS2 := Lib.hid (fun W => same_calls key key (by omega) (by omega) W true (by simp))
  generalize mac key msg = d at *
  clear hT hR
  have hq : (key.toList == msg.toList) = r := by rw [Base.toList_beq, Bool.eq_iff_iff, hr, decide_eq_true_iff]
  clear hr
  go_enter Tryd.func12, Tryd.ntmps12
  go_wp2_with fail
  refine HS.out.mono ?_; rintro e w1 ⟨rfl, hb1⟩
  have hz1 := hb1.size
  go_wp2_with fail
  refine (HS2.out _).mono ?_; rintro e w2 ⟨rfl, hb2⟩
  have hb2 := hb1.trans (hb2.mono hz1)
  have hz2 := hb2.size
  clear hb1
  go_wp2_with fail
  refine (HA.out _ hb2).mono ?_; rintro e w3 ⟨rfl, hb3⟩
  have hb3 := hb2.trans (hb3.mono hz2)
  have hz3 := hb3.size
  clear hb2
  go_wp2_with fail
  refine (HB.out _ hb3).mono ?_; rintro e w4 ⟨rfl, hb4⟩
  have hb4 := hb3.trans (hb4.mono hz3)
  go_wp2
  go_ret
  exact ⟨by simp, hb4⟩
theorem macSum_walk (key msg : ByteArray) (w : World) (hk : key.size ≤ 140737488351232) (hm : msg.size ≤ 140737488351232) (h1 : ∀ i : Nat, i < 8 → w.cell? ⟨0, i, none⟩ = some (.int .u32 (Ints I0.list i))) (h2 : ∀ i : Nat, i < 64 → w.cell? ⟨2, i, none⟩ = some (.int .u32 (Ints K0 i)))
    (h3 : ∀ i : Nat, i < 8 → w.cell? ⟨1, i, none⟩ = some (.int .u32 (Ints I0.list i))) (h4 : ∀ i : Nat, i < 64 → w.cell? ⟨3, i, none⟩ = some (.int .u32 (Ints K0 i))) :
    Calls Tryd.prog 12 #[.string key, .string msg] w fun e w' => e = .returned (.bool true) ∧ Below w.heap.size w w' := by
  obtain ⟨hT, hR⟩ := both h1 h2 h3 h4
  exact macSum_in key msg (decide (key = msg)) w hk hm (by simp) hT hR
set_option maxHeartbeats 1000000 in
theorem macDerive_walk (key label : ByteArray) (n : Int) (w : World) (hk : key.size ≤ 140737488351232) (hl : label.size ≤ 140737488351232) (_ : (Lit.int .i64 n).wf = true) (h1 : ∀ i : Nat, i < 8 → w.cell? ⟨0, i, none⟩ = some (.int .u32 (Ints I0.list i))) (h2 : ∀ i : Nat, i < 64 → w.cell? ⟨2, i, none⟩ = some (.int .u32 (Ints K0 i)))
    (h3 : ∀ i : Nat, i < 8 → w.cell? ⟨1, i, none⟩ = some (.int .u32 (Ints I0.list i))) (h4 : ∀ i : Nat, i < 64 → w.cell? ⟨3, i, none⟩ = some (.int .u32 (Ints K0 i))) :
    Calls Tryd.prog 13 #[.string key, .string label, .int .i64 n] w fun e w' => e = .returned (.bool true) ∧ Below w.heap.size w w' := by
  obtain ⟨hT, hR⟩ := both h1 h2 h3 h4
  clear h1 h2 h3 h4
  have H : ∃ (d : ByteArray) (c : Int), Hid (Calls Tryd.prog 36 #[.string key, .string label, .int .i64 n] w (fun e w' => e = .returned (.tuple #[.string d, .int .i64 c]) ∧ Below w.heap.size w w')) ∧
      Hid (∀ W, Below w.heap.size w W → Calls Tryd.prog 37 #[.string key, .string label, .int .i64 n] W (fun e w' => e = .returned (.tuple #[.string d, .int .i64 c]) ∧ Below W.heap.size W w')) := by
    by_cases hn : n < 0 ∨ 8160 < n
    · exact ⟨_, _, Lib.hid (derive_no key label n hn w), Lib.hid fun W _ => refDerive_no key label n hn W⟩
    · obtain ⟨m, rfl⟩ := Int.eq_ofNat_of_zero_le (show 0 ≤ n by omega)
      exact ⟨_, _, Lib.hid (derive_calls key label m hk hl (by omega) w hT), Lib.hid fun W h => refDerive_calls key label m hk hl (by omega) W (hR.below h)⟩
  obtain ⟨d, c, HA, HB⟩ := H
  clear hT hR
  go_enter Tryd.func13, Tryd.ntmps13
  go_wp2_with fail
  refine HA.out.mono ?_; rintro e w1 ⟨rfl, hb1⟩
  go_wp2_with fail
  refine (HB.out _ hb1).mono ?_; rintro e w2 ⟨rfl, hb2⟩
  go_wp2
  go_ret
  exact ⟨by simp, hb1.trans (hb2.mono hb1.size)⟩
end Go.Proofs.YtkhcinnpfpkhnaaDoor.MacLaws
