/- ShaBegins, ShaParts: their walks. -/
import Derived.Test.YtkhcinnpfpkhnaaDoorShaLaws
import Derived.Test.YtkhcinnpfpkhnaaDoorShaReset
set_option linter.unusedVariables false
set_option linter.unusedSimpArgs false
namespace Go.Proofs.YtkhcinnpfpkhnaaDoor.ShaLaws
open Go.RowKit Go.Proofs.YtkhcinnpfpkhnaaDoor.Base Go.Proofs.YtkhcinnpfpkhnaaDoor.ShaPlain Go.Proofs.YtkhcinnpfpkhnaaDoor.Mem Go.Proofs.YtkhcinnpfpkhnaaDoor.ShaTake Go.Proofs.YtkhcinnpfpkhnaaDoor.ShaNew Go.Proofs.YtkhcinnpfpkhnaaDoor.ShaDig Go.Proofs.YtkhcinnpfpkhnaaDoor.ShaSum Go.Proofs.YtkhcinnpfpkhnaaDoor.ShaKit Go.Proofs.YtkhcinnpfpkhnaaDoor.ShaWrite Go.Proofs.YtkhcinnpfpkhnaaDoor.ShaReset

def AllTrue (w : World) (e : Ending) (w' : World) : Prop := e = .returned (.bool true) ∧ Below w.heap.size w w'
set_option maxHeartbeats 1000000 in
theorem begins_in (s : ByteArray) (k : Int) (n : Nat) (w : World) (hs : s.size ≤ 140737488351232) (hk : (k < 1 ∨ 32 < k) ∧ n = 32 ∨ 1 ≤ k ∧ k ≤ 32 ∧ k = n) (hT : Tab w) :
    Calls Tryd.prog 9 #[.string s, .int .i64 k] w (AllTrue w) := by
  have HA := Lib.hid (shaSum_calls s (by omega) w hT)
  have HB : Hid (∀ W, Below w.heap.size w W → Calls Tryd.prog 28 #[.string s, .int .i64 k] W (Gives (cut k s) W)) := Lib.hid fun W h => shaCut_calls s (by omega) k W (hT.below h)
  have hds := dig_size s
  have hn : wid k = n := by unfold wid; split <;> omega
  have hcs := cut_size k s
  rw [hn] at hcs
  have hsl := slice_h (P := Tryd.prog) (dig s) 9 Tryd.underlying9 n (by rw [hds]; have := wid_le k; omega)
  have hce : (dig s).extract 0 n = cut k s := by rw [cut, hn]
  rw [hce] at hsl
  have HCE := Lib.hid hce
  generalize cut k s = c at *
  generalize dig s = d at *
  clear hT hce hn
  rcases hk with ⟨h1 | h1, rfl⟩ | ⟨h1, h2, rfl⟩
  all_goals
    go_enter Tryd.func9, Tryd.ntmps9
    go_wp2_with fail
    refine HA.out.mono ?_; rintro e w1 ⟨rfl, hb1⟩
    go_wp2_with fail
    refine (HB.out _ hb1).mono ?_; rintro e w2 ⟨rfl, hb2⟩
    have HW := Lib.hid (hb1.trans (hb2.mono hb1.size))
    clear hb1 hb2
    go_wp2
    go_ret
    exact ⟨by simp [HCE.out], HW.out⟩
theorem shaBegins_walk (s : ByteArray) (k : Int) (w : World) (hs : s.size ≤ 140737488351232) (_ : (Lit.int .i64 k).wf = true)
    (h3 : ∀ i : Nat, i < 8 → w.cell? ⟨1, i, none⟩ = some (.int .u32 (Ints I0.list i))) (h4 : ∀ i : Nat, i < 64 → w.cell? ⟨3, i, none⟩ = some (.int .u32 (Ints K0 i))) :
    Calls Tryd.prog 9 #[.string s, .int .i64 k] w fun e w' => e = .returned (.bool true) ∧ Below w.heap.size w w' := by
  by_cases h1 : k < 1 ∨ 32 < k
  · exact begins_in s k 32 w hs (.inl ⟨h1, rfl⟩) (tab_of h3 h4)
  · exact begins_in s k k.toNat w hs (.inr ⟨by omega, by omega, by omega⟩) (tab_of h3 h4)
/-- A Hash that holds a text, apart from the tables. -/
def Holds (w : World) (b : Nat) (t : List Nat) : Prop := Hash K0 I0 w b t ∧ b ≠ 3 ∧ b ≠ 1
theorem Holds.kept {w wx : World} {b : Nat} {t : List Nat} (h : Holds w b t) {row : Option Nat} (hg : Grew w wx row) (hne : some b ≠ row) : Holds wx b t := ⟨hash_kept h.1 hg hne, h.2⟩
theorem Holds.below {w wx : World} {b : Nat} {t : List Nat} (h : Holds w b t) (hb : Below w.heap.size w wx) : Holds wx b t := h.kept (Grew.of_below hb none) (by simp)
theorem Holds.lt {w : World} {b : Nat} {t : List Nat} (h : Holds w b t) : b < w.heap.size := hash_lt h.1
def NewHash (t : List Nat) (w : World) (e : Ending) (w' : World) : Prop := ∃ b, e = .returned (.pointer (some ⟨b, 0, none⟩)) ∧ w.heap.size ≤ b ∧ Below w.heap.size w w' ∧ Holds w' b t
theorem newH (w : World) (hT : Tab w) : Calls Tryd.prog 23 #[] w (NewHash [] w) :=
  (new_calls K0 I0 w hT.2).mono fun e w' ⟨b, h1, h2, h3, h4⟩ => by
    have := hT.lt
    exact ⟨b, h1, h2, h3.below, h4, by omega, by omega⟩
theorem copyH (w : World) (hT : Tab w) (b : Nat) (t : List Nat) (h : Holds w b t) : Calls Tryd.prog 25 #[.pointer (some ⟨b, 0, none⟩)] w (NewHash t w) :=
  (copy_calls K0 I0 w b t h.1).mono fun e w' ⟨b, h1, h2, h3, h4⟩ => by
    have := hT.lt
    exact ⟨b, h1, h2, h3.below, h4, by omega, by omega⟩
def WroteH (n : Nat) (t : List Nat) (b : Nat) (w : World) (e : Ending) (w' : World) : Prop := e = .returned (.int .i64 (n : Int)) ∧ Grew w w' (some b) ∧ Holds w' b t ∧ Tab w'
theorem writeH (w : World) (hT : Tab w) (b : Nat) (t : List Nat) (h : Holds w b t) (p : ByteArray) (hp : t.length + p.size ≤ 1000000000000000) :
    Calls Tryd.prog 24 #[.pointer (some ⟨b, 0, none⟩), .string p] w (WroteH p.size (t ++ nbN p) b w) :=
  (write_calls K0 K0_small I0 I0_ok p t hp b h.2.1 w hT.1 h.1).mono fun e w' ⟨h1, h2, h3⟩ =>
    ⟨h1, h2, ⟨h3, h.2⟩, hT.grown h2 (by simpa using fun e => h.2.1 e.symm) (by simpa using fun e => h.2.2 e.symm)⟩
theorem resetH (w : World) (hT : Tab w) (b : Nat) (t : List Nat) (h : Holds w b t) :
    Calls Tryd.prog 26 #[.pointer (some ⟨b, 0, none⟩)] w (fun e w' => e = .returned (.tuple #[]) ∧ Grew w w' (some b) ∧ Holds w' b [] ∧ Tab w') :=
  (reset_calls K0 I0 w hT.2 b t h.1).mono fun e w' ⟨h1, h2, h3⟩ =>
    ⟨h1, h2, ⟨h3, h.2⟩, hT.grown h2 (by simpa using fun e => h.2.1 e.symm) (by simpa using fun e => h.2.2 e.symm)⟩
theorem sumH (w : World) (hT : Tab w) (b : Nat) (t : List Nat) (h : Holds w b t) (hl : t.length ≤ 900000000000000) :
    Calls Tryd.prog 17 #[.pointer (some ⟨b, 0, none⟩)] w (Gives (txt (digest K0 I0 t)) w) :=
  (hsum_calls K0 K0_small I0 I0_ok t hl b w hT.1 h.1).mono fun e w' ⟨p, h1, h2, h3⟩ => by
    have : p = txt (digest K0 I0 t) := nbN_inj (by rw [h2, nbN_txt (digest_byte _ _ _)])
    rw [← this]
    exact ⟨h1, h3⟩
theorem lenH (w : World) (b : Nat) (t : List Nat) (h : Holds w b t) :
    Calls Tryd.prog 19 #[.pointer (some ⟨b, 0, none⟩)] w (fun e w' => e = .returned (.int .i64 (t.length : Int)) ∧ w = w') := (len_calls K0 I0 w b t h.1).mono fun _ _ ⟨h1, h2⟩ => ⟨h1, h2.symm⟩
/-- The same, of texts. -/
def HT (w : World) (b : Nat) (x : ByteArray) : Prop := Holds w b (nbN x)
theorem HT.kept {w wx : World} {b : Nat} {x : ByteArray} (h : HT w b x) {row : Option Nat} (hg : Grew w wx row) (hne : some b ≠ row) : HT wx b x := Holds.kept h hg hne
theorem HT.below {w wx : World} {b : Nat} {x : ByteArray} (h : HT w b x) (hb : Below w.heap.size w wx) : HT wx b x := Holds.below h hb
theorem HT.lt {w : World} {b : Nat} {x : ByteArray} (h : HT w b x) : b < w.heap.size := Holds.lt h
theorem belowG {w W W2 : World} {b : Nat} (h : Below w.heap.size w W) (hg : Grew W W2 (some b)) (hb : w.heap.size ≤ b) : Below w.heap.size w W2 :=
  ((Grew.of_below h none).andThen hg (fun j e => .inl (by obtain rfl := Option.some.inj e; exact hb))).below
theorem nbN_nil : nbN (⟨#[]⟩ : ByteArray) = [] := rfl
def NewT (x : ByteArray) (w : World) (e : Ending) (w' : World) : Prop := ∃ b, e = .returned (.pointer (some ⟨b, 0, none⟩)) ∧ w.heap.size ≤ b ∧ Below w.heap.size w w' ∧ HT w' b x
theorem newT (w : World) (hT : Tab w) : Calls Tryd.prog 23 #[] w (NewT ⟨#[]⟩ w) := newH w hT
theorem copyT (w : World) (hT : Tab w) (b : Nat) (x : ByteArray) (h : HT w b x) : Calls Tryd.prog 25 #[.pointer (some ⟨b, 0, none⟩)] w (NewT x w) := copyH w hT b _ h
theorem writeT (w : World) (hT : Tab w) (b : Nat) (x : ByteArray) (h : HT w b x) (p : ByteArray) (hp : x.size + p.size ≤ 900000000000000) :
    Calls Tryd.prog 24 #[.pointer (some ⟨b, 0, none⟩), .string p] w (fun e w' => e = .returned (.int .i64 (p.size : Int)) ∧ Grew w w' (some b) ∧ HT w' b (x ++ p) ∧ Tab w') :=
  (writeH w hT b _ h p (by rw [nbN_length]; omega)).mono fun _ _ ⟨h1, h2, h3, h4⟩ => ⟨h1, h2, by unfold HT; rw [nbN_append]; exact h3, h4⟩
theorem resetT (w : World) (hT : Tab w) (b : Nat) (x : ByteArray) (h : HT w b x) :
    Calls Tryd.prog 26 #[.pointer (some ⟨b, 0, none⟩)] w (fun e w' => e = .returned (.tuple #[]) ∧ Grew w w' (some b) ∧ HT w' b ⟨#[]⟩ ∧ Tab w') := resetH w hT b _ h
theorem sumT (w : World) (hT : Tab w) (b : Nat) (x : ByteArray) (h : HT w b x) (hl : x.size ≤ 900000000000000) :
    Calls Tryd.prog 17 #[.pointer (some ⟨b, 0, none⟩)] w (Gives (dig x) w) := sumH w hT b _ h (by rw [nbN_length]; exact hl)
theorem lenT (w : World) (b : Nat) (x : ByteArray) (h : HT w b x) :
    Calls Tryd.prog 19 #[.pointer (some ⟨b, 0, none⟩)] w (fun e w' => e = .returned (.int .i64 (x.size : Int)) ∧ w = w') := (lenH w b _ h).mono fun _ _ ⟨h1, h2⟩ => ⟨by rw [h1, nbN_length], h2⟩
theorem sum_dig (x : ByteArray) : txt (digest K0 I0 (nbN x)) = dig x := rfl
end Go.Proofs.YtkhcinnpfpkhnaaDoor.ShaLaws
