/- (*sha.Hash).Sum, sha.Sum, sha.Cut: their walks. -/
import Derived.Test.YtcenfedmbicofaaDoorShaNew
set_option linter.unusedVariables false
set_option linter.unusedSimpArgs false
namespace Go.Proofs.YtcenfedmbicofaaDoor.ShaSum
open Go.RowKit Go.Proofs.YtcenfedmbicofaaDoor.Base Go.Proofs.YtcenfedmbicofaaDoor.ShaPlain Go.Proofs.YtcenfedmbicofaaDoor.ShaRot Go.Proofs.YtcenfedmbicofaaDoor.Arr Go.Proofs.YtcenfedmbicofaaDoor.Mem Go.Proofs.YtcenfedmbicofaaDoor.Buf Go.Proofs.YtcenfedmbicofaaDoor.ShaTake Go.Proofs.YtcenfedmbicofaaDoor.ShaBlocks Go.Proofs.YtcenfedmbicofaaDoor.ShaKit Go.Proofs.YtcenfedmbicofaaDoor.ShaWrite Go.Proofs.YtcenfedmbicofaaDoor.ShaPut Go.Proofs.YtcenfedmbicofaaDoor.ShaNew

/-- The hash of a text. -/
def digest (K : List Nat) (s0 : St) (t : List Nat) : List Nat := stBytes (feed K s0 (t ++ pad t.length) ((t ++ pad t.length).length / 64))
theorem digest_length (K : List Nat) (s0 : St) (t : List Nat) : (digest K s0 t).length = 32 := by rw [digest, stBytes, flat_len]; rfl
theorem digest_byte (K : List Nat) (s0 : St) (t : List Nat) : ∀ x ∈ digest K s0 t, x < 256 := flat_byte _
/-- The text that these bytes are. -/
def Says (bs : List Nat) (w : World) (e : Ending) (w' : World) : Prop := ∃ p : ByteArray, e = .returned (.string p) ∧ nbN p = bs ∧ Below w.heap.size w w'
set_option maxHeartbeats 1000000 in
set_option maxRecDepth 1000000 in
theorem hsum_calls (K : List Nat) (hK : Small K) (s0 : St) (hs : s0.Ok) (t : List Nat) (hl : t.length ≤ 900000000000000) (b : Nat) (w : World) (hT : Table K w) (hH : Hash K s0 w b t) :
    Calls Tryd.prog 77 #[.pointer (some ⟨b, 0, none⟩)] w (Says (digest K s0 t) w) := by
  obtain ⟨s1, r1, hrow, hr1, _⟩ := hash_row hH
  have HC := Lib.hid (copy_calls K s0 w b t hH)
  have HR := Lib.hid hrow
  have HN := Lib.hid (cell_n s1 r1 (t.length : Int) hr1)
  have HT := Lib.hid hT
  have HP := Lib.hid (fun W => padding_calls t.length (by omega) W)
  have hpl := pad_length t.length
  have hz : zeros t.length < 64 := Nat.mod_lt _ (by decide)
  have HW : Hid (∀ (p : ByteArray) (b2 : Nat) (W : World), nbN p = pad t.length → b2 ≠ 3 → Table K W → Hash K s0 W b2 t →
      Calls Tryd.prog 76 #[.pointer (some ⟨b2, 0, none⟩), .string p] W (fun e w' => e = .returned (.int .i64 (p.size : Int)) ∧ Grew W w' (some b2) ∧ Hash K s0 w' b2 (t ++ pad t.length))) :=
    Lib.hid fun p b2 W hp hb hT hH => by
      have hps : p.size = (pad t.length).length := by rw [← hp, nbN_length]
      exact (write_calls K hK s0 hs p t (by omega) b2 hb W hT hH).mono fun e w' ⟨h1, h2, h3⟩ => ⟨h1, h2, by rw [← hp]; exact h3⟩
  have HX : Hid (∀ (b2 : Nat) (W : World), Hash K s0 W b2 (t ++ pad t.length) → Calls Tryd.prog 87 #[.pointer (some ⟨b2, 0, none⟩)] W (Says (digest K s0 t) W)) :=
    Lib.hid fun b2 W hH => by
      obtain ⟨r, h1, _⟩ := hH
      exact text_calls _ (feed_ok hs _ _) r _ b2 W h1
  have HTL := Lib.hid hT.lt
  clear hrow hr1 hT hH hpl hz
  go_enter Tryd.func77, Tryd.ntmps77
  go_wp2_with fail
  refine HC.out.mono ?_; rintro e w1 ⟨b2, rfl, hge, hg1, hh1⟩
  have c := ((HR.out.kept hg1 (by simp)).cell 72).trans HN.out
  have HG1 := Lib.hid hg1
  have HH1 := Lib.hid hh1
  have HGE := Lib.hid hge
  clear hg1 hh1 hge
  go_wp2_with fail
  refine (HP.out _).mono ?_; rintro e w2 ⟨p, rfl, hp, hb2⟩
  have hb2n : b2 ≠ 3 := by have := HTL.out; have := HGE.out; omega
  have HG2 := Lib.hid (HG1.out.andBelow hb2)
  have hh2 := hash_kept HH1.out (Grew.of_below hb2 none) (by simp)
  have HW2 := Lib.hid (HW.out p b2 w2 hp hb2n (HT.out.grown HG2.out (by simp)) hh2)
  clear hp hb2 hh2 c
  go_wp2_with fail
  refine HW2.out.mono ?_; rintro e w3 ⟨rfl, hg3, hh3⟩
  have HG3 := Lib.hid (HG2.out.andThen hg3 (fun j e => .inl (by obtain rfl := Option.some.inj e; exact HGE.out)))
  have HX3 := Lib.hid (HX.out b2 w3 hh3)
  clear hg3 hh3
  go_wp2_with fail
  refine HX3.out.mono ?_; rintro e w4 ⟨q, rfl, hq, hb4⟩
  have HB4 := Lib.hid (HG3.out.andBelow hb4).below
  have HQ := Lib.hid hq
  clear hq hb4
  go_wp2
  go_ret
  exact ⟨q, rfl, HQ.out, HB4.out⟩
set_option maxHeartbeats 1000000 in
theorem sum_calls (K : List Nat) (hK : Small K) (s0 : St) (hs : s0.Ok) (x : ByteArray) (hx : x.size ≤ 900000000000000) (w : World) (hT : Table K w) (hB : Begin s0 w) :
    Calls Tryd.prog 65 #[.string x] w (Says (digest K s0 (nbN x)) w) := by
  have HN := Lib.hid (new_calls K s0 w hB)
  have HT := Lib.hid hT
  have HTL := Lib.hid hT.lt
  have HW : Hid (∀ (b : Nat) (W : World), b ≠ 3 → Table K W → Hash K s0 W b [] → Calls Tryd.prog 76 #[.pointer (some ⟨b, 0, none⟩), .string x] W (fun e w' => e = .returned (.int .i64 (x.size : Int)) ∧ Grew W w' (some b) ∧ Hash K s0 w' b (nbN x))) :=
    Lib.hid fun b W hb hT hH => write_calls K hK s0 hs x [] (by simp; omega) b hb W hT hH
  have HS : Hid (∀ (b : Nat) (W : World), Table K W → Hash K s0 W b (nbN x) → Calls Tryd.prog 77 #[.pointer (some ⟨b, 0, none⟩)] W (Says (digest K s0 (nbN x)) W)) :=
    Lib.hid fun b W hT hH => hsum_calls K hK s0 hs (nbN x) (by rw [nbN_length]; exact hx) b W hT hH
  clear hT hB
  go_enter Tryd.func65, Tryd.ntmps65
  go_wp2_with fail
  refine HN.out.mono ?_; rintro e w1 ⟨b, rfl, hge, hg1, hh1⟩
  have hbn : b ≠ 3 := by have := HTL.out; omega
  have HG1 := Lib.hid hg1
  have HGE := Lib.hid hge
  have HW1 := Lib.hid (HW.out b w1 hbn (HT.out.grown hg1 (by simp)) hh1)
  clear hg1 hh1 hge
  go_wp2_with fail
  refine HW1.out.mono ?_; rintro e w2 ⟨rfl, hg2, hh2⟩
  have HG2 := Lib.hid (HG1.out.andThen hg2 (fun j e => .inl (by obtain rfl := Option.some.inj e; exact HGE.out)))
  have HS2 := Lib.hid (HS.out b w2 (HT.out.grown HG2.out (by simp)) hh2)
  clear hg2 hh2
  go_wp2_with fail
  refine HS2.out.mono ?_; rintro e w3 ⟨q, rfl, hq, hb3⟩
  have HB3 := Lib.hid (HG2.out.andBelow hb3).below
  have HQ := Lib.hid hq
  clear hq hb3
  go_wp2
  go_ret
  exact ⟨q, rfl, HQ.out, HB3.out⟩
end Go.Proofs.YtcenfedmbicofaaDoor.ShaSum
