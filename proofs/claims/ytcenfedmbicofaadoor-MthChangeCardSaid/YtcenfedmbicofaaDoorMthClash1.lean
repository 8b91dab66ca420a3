/- clash, MthChange: their walks. -/
import Derived.Test.YtcenfedmbicofaaDoorMthBits
set_option linter.unusedVariables false
set_option linter.unusedSimpArgs false
namespace Go.Proofs.YtcenfedmbicofaaDoor.Mth
open Go.RowKit Go.Proofs.YtcenfedmbicofaaDoor.Base Go.Proofs.YtcenfedmbicofaaDoor.ShaPlain Go.Proofs.YtcenfedmbicofaaDoor.ShaDig Go.Proofs.YtcenfedmbicofaaDoor.TreeHash Go.Proofs.YtcenfedmbicofaaDoor.Strs Go.Proofs.YtcenfedmbicofaaDoor.Mem

set_option maxRecDepth 20000 in
set_option maxHeartbeats 20000000 in
theorem clash_one (k : Int) (A : Option Addr) (c : Nat) (B : Option Addr) (d : Nat) (xs ys : List ByteArray) (w : World) (ha : Strs w A 1 xs) (hb : Strs w B 1 ys) (ax : All xs) (ay : All ys) (hne : xs ≠ ys) (hr : root k xs = root k ys) (hT : Tab w) :
    Calls Tryd.prog 27 #[.int .i64 k, .slice A 1 c, .slice B 1 d] w (AllTrue w) := by
  have ex := one_of ha.len
  have ey := one_of hb.len
  obtain ⟨aa, hA, hab, hac⟩ := ha.at_ 0 (by omega)
  obtain ⟨ba, hB, hbb, hbc⟩ := hb.at_ 0 (by omega)
  have zx := All.getD (ss := xs) ax 0
  have zy := All.getD (ss := ys) ay 0
  generalize xs.getD 0 ⟨#[]⟩ = x at *
  generalize ys.getD 0 ⟨#[]⟩ = y at *
  have hxy : x ≠ y := by rintro rfl; exact hne (ex.trans ey.symm)
  rw [ex, ey, root_one, root_one] at hr
  rw [add_zero] at hac hbc
  have s1 : ((⟨#[0]⟩ : ByteArray) ++ x).size = 1 + x.size := size_app _ _
  have s2 : ((⟨#[0]⟩ : ByteArray) ++ y).size = 1 + y.size := size_app _ _
  have HX : Hid (∀ W, Below w.heap.size w W → Calls Tryd.prog 50 #[.string ((⟨#[0]⟩ : ByteArray) ++ x), .int .i64 k] W (Gives (leafH k x) W)) := Lib.hid fun W hb => shaCut_calls _ (by omega) k W (hT.below hb)
  have HY : Hid (∀ W, Below w.heap.size w W → Calls Tryd.prog 50 #[.string ((⟨#[0]⟩ : ByteArray) ++ y), .int .i64 k] W (Gives (leafH k x) W)) := Lib.hid fun W hb => by rw [hr]; exact shaCut_calls _ (by omega) k W (hT.below hb)
  have HCA : Hid (∀ W, Below w.heap.size w W → W.cell? aa = some (.string x)) := Lib.hid fun W hb => (hb.cell hab).trans hac
  have HCB : Hid (∀ W, Below w.heap.size w W → W.cell? ba = some (.string y)) := Lib.hid fun W hb => (hb.cell hbb).trans hbc
  obtain ⟨e1, e2⟩ := ne_beq hxy
  have B0 := Below.refl w.heap.size w
  have hm1 : ¬ 9223372036854775807 < 1 + x.size := by omega
  have hm2 : ¬ 9223372036854775807 < 1 + y.size := by omega
  generalize leafH k x = t at *
  subst hA hB
  clear ha hb ax ay hne hr hT ex ey hxy s1 s2 hab hbb
  go_enter Tryd.func27, Tryd.ntmps27
  go_wp2_with fail
  go_region_held3 (fun w' => w'.cell? aa = some (.string x) ∧ w'.cell? ba = some (.string y) ∧ Below w.heap.size w w') (first | exact ⟨u7, v7, B7⟩ | exact ⟨u8, v8, B8⟩ | exact ⟨hac, hbc, B0.drew⟩)
    (first
      | (go_split_ands; go_at_call 50; (with_reducible refine (HX.out _ (by assumption)).mono ?_); rintro e w7 ⟨rfl, C7⟩; have B7 := chain (by assumption) C7; have u7 := HCA.out _ B7; have v7 := HCB.out _ B7; clear C7)
      | (go_split_ands; go_at_call 50; (with_reducible refine (HY.out _ (by assumption)).mono ?_); rintro e w8 ⟨rfl, C8⟩; have B8 := chain (by assumption) C8; have u8 := HCA.out _ B8; have v8 := HCB.out _ B8; clear C8))
  all_goals
    go_wp2
    go_ret
    exact ⟨by simp, by first | assumption | exact B8 | exact B7⟩
end Go.Proofs.YtcenfedmbicofaaDoor.Mth
