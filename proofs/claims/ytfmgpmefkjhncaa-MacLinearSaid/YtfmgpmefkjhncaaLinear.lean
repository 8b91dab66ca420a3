/- MacLinear: of texts of one length the sums are xored as the texts are; no condition. -/
import Derived.Test.YtfmgpmefkjhncaaCrcLaws
import Derived.Test.YtfmgpmefkjhncaaPMacLinearx1
set_option linter.unusedVariables false
namespace Go.Proofs.Ytfmgpmefkjhncaa.Linear
open Go.RowKit Go.Proofs.Ytfmgpmefkjhncaa.Base Go.Proofs.Ytfmgpmefkjhncaa.CrcPlain Go.Proofs.Ytfmgpmefkjhncaa.Crc Go.Proofs.Ytfmgpmefkjhncaa.CrcLaws Go.Proofs.Ytfmgpmefkjhncaa.PMacLinear Go.Proofs.YtfmgpmefkjhncaaW.PrintWords

/-! ### texts xored -/
theorem bt_nbN (s : ByteArray) (i : Nat) (h : i < s.size) : bt s (i : Int) = ((s[i]'h).toNat : Int) := by
  unfold bt
  rw [dif_pos (by rw [Int.toNat_natCast]; exact h)]
  congr 2
def zx (a b : List Nat) : List Nat := List.zipWith (· ^^^ ·) a b
theorem zx_byte {a b : List Nat} (ha : ∀ c ∈ a, c < 256) (hb : ∀ c ∈ b, c < 256) : ∀ c ∈ zx a b, c < 256 := by
  induction a generalizing b with
  | nil => simp [zx]
  | cons x a ih =>
    cases b with
    | nil => simp [zx]
    | cons y b =>
      intro c hc
      simp only [zx, List.zipWith_cons_cons, List.mem_cons] at hc
      rcases hc with rfl | hc
      · exact xor_lt (k := 8) (ha x List.mem_cons_self) (hb y List.mem_cons_self)
      · exact ih (fun c h => ha c (List.mem_cons_of_mem _ h)) (fun c h => hb c (List.mem_cons_of_mem _ h)) c hc
theorem xored_loop (a b : ByteArray) (ha : a.size ≤ 140737488351232) : ∀ (d i k : Nat) (ys : List Nat), i + d = min a.size b.size → d < k → ys.length = i → ys = (zx (nbN a) (nbN b)).take i →
    annalslaw3_xored.l0 k a b (ys.map fun x : Nat => (x : Int)) i = some (strOfNums ((zx (nbN a) (nbN b)).map fun x : Nat => (x : Int))) := by
  have hzl : (zx (nbN a) (nbN b)).length = min a.size b.size := by simp [zx, nbN_length]
  intro d
  induction d with
  | zero =>
    intro i k ys hd hk hl hy
    obtain ⟨k, rfl⟩ : ∃ m, k = m + 1 := ⟨k - 1, by omega⟩
    rw [List.take_of_length_le (by omega)] at hy
    subst hy
    simp only [annalslaw3_xored.l0]
    by_cases h : (i : Int) < a.size
    · rw [if_pos h, if_neg (by omega)]
    · rw [if_neg h]
  | succ d ih =>
    intro i k ys hd hk hl hy
    obtain ⟨k, rfl⟩ : ∃ m, k = m + 1 := ⟨k - 1, by omega⟩
    have hia : i < a.size := by omega
    have hib : i < b.size := by omega
    have hx := (a[i]'hia).toNat_lt
    have hx2 := (b[i]'hib).toNat_lt
    have c1 : (i : Int) < a.size := by omega
    have c2 : (i : Int) < b.size := by omega
    have c3 : (0 : Int) ≤ i := by omega
    have c4 : (ys.map fun x : Nat => (x : Int)).length < 140737488355328 := by rw [List.length_map]; omega
    have hz : (zx (nbN a) (nbN b)).take (i + 1) = ys ++ [(a[i]'hia).toNat ^^^ (b[i]'hib).toNat] := by
      rw [List.take_succ_eq_append_getElem (by omega), ← hy]
      simp [zx, nbN]
      rfl
    have goon := ih (i + 1) k (ys ++ [(a[i]'hia).toNat ^^^ (b[i]'hib).toNat]) (by omega) (by omega) (by simp [hl]) hz.symm
    have e1 : wrap64 ((i : Int) + 1) = ((i + 1 : Nat) : Int) := by rw [wrap_in (by omega) (by omega)]; omega
    simp only [annalslaw3_xored.l0]
    rw [if_pos c1, if_pos c2, if_pos c3, if_pos c4, bt_nbN a i hia, bt_nbN b i hib, xor8 _ _ hx hx2, e1]
    rw [List.map_append] at goon
    exact goon
theorem xored_is (a b : ByteArray) (ha : a.size ≤ 140737488351232) : ∃ r, annalslaw3_xored.f (a.size + 1) a b = some r ∧ nbN r = zx (nbN a) (nbN b) ∧ r.size = min a.size b.size := by
  refine ⟨_, xored_loop a b ha (min a.size b.size) 0 (a.size + 1) [] (by omega) (by omega) rfl rfl, ?_, ?_⟩
  · have hb := zx_byte (fun c h => nbN_byte (s := a) h) (fun c h => nbN_byte (s := b) h)
    simp only [nbN, son_list, List.map_map]
    conv => rhs; rw [← List.map_id (zx _ _)]
    apply List.map_congr_left
    intro x hx
    have := hb x hx
    simp only [Function.comp, id, Int.toNat_natCast, UInt8.toNat_ofNat']
    omega
  · rw [son_size, List.length_map]
    simp [zx, nbN_length]
theorem num_zx (a b : List Nat) (hl : a.length = b.length) (ha : ∀ c ∈ a, c < 256) (hb : ∀ c ∈ b, c < 256) : num (zx a b) = num a ^^^ num b := by
  induction a generalizing b with
  | nil => cases b with
    | nil => rfl
    | cons y b => simp at hl
  | cons x a ih =>
    cases b with
    | nil => simp at hl
    | cons y b =>
      have hx := ha x List.mem_cons_self
      have hy := hb y List.mem_cons_self
      have h := ih b (by simpa using hl) (fun c h => ha c (List.mem_cons_of_mem _ h)) (fun c h => hb c (List.mem_cons_of_mem _ h))
      have e : ∀ (c : Nat) (n : Nat), c < 256 → c + 256 * n = 2 ^ 8 * n ^^^ c := fun c n hc => by rw [join_xor 8 n c hc]; omega
      show (x ^^^ y) + 256 * num (zx a b) = (x + 256 * num a) ^^^ (y + 256 * num b)
      rw [h, e _ _ (xor_lt (k := 8) hx hy), e _ _ hx, e _ _ hy]
      have d : 2 ^ 8 * (num a ^^^ num b) = 2 ^ 8 * num a ^^^ 2 ^ 8 * num b := by
        have := Nat.shiftLeft_xor_distrib (a := num a) (b := num b) (i := 8)
        simpa [Nat.shiftLeft_eq, Nat.mul_comm] using this
      rw [d, Nat.xor_assoc, ← Nat.xor_assoc (2 ^ 8 * num b), Nat.xor_comm (2 ^ 8 * num b) x, Nat.xor_assoc x, ← Nat.xor_assoc]
theorem crc_split (l : List Nat) (h : ∀ c ∈ l, c < 256) : crcOn 0 l = inv (stpN (8 * l.length) (inv 0)) ^^^ stpN (8 * l.length) (num l) := by
  unfold crcOn
  rw [run_eq _ _ h, stpN_xor]
  unfold inv
  rw [Nat.xor_assoc, Nat.xor_comm (stpN (8 * l.length) (num l)), ← Nat.xor_assoc]
theorem take_zx (n : Nat) (a b : List Nat) : (zx a b).take n = zx (a.take n) (b.take n) := by simp [zx, List.take_zipWith]
theorem nbN_extract (s : ByteArray) (n : Nat) : nbN (s.extract 0 n) = (nbN s).take n := by
  simp [nbN, ByteArray.data_extract, List.map_take]
theorem three (a b c : List Nat) (ha : ∀ x ∈ a, x < 256) (hb : ∀ x ∈ b, x < 256) (hc : ∀ x ∈ c, x < 256) (n : Nat) (h1 : a.length = n) (h2 : b.length = n) (h3 : c.length = n) :
    crcOn 0 (zx (zx a b) c) = crcOn 0 a ^^^ crcOn 0 b ^^^ crcOn 0 c := by
  have hab : (zx a b).length = n := by simp [zx, h1, h2]
  have habc : (zx (zx a b) c).length = n := by simp only [zx] at hab ⊢; rw [List.length_zipWith]; omega
  have hbab := zx_byte ha hb
  rw [crc_split _ (zx_byte hbab hc), crc_split a ha, crc_split b hb, crc_split c hc, num_zx _ _ (by omega) hbab hc, num_zx _ _ (by omega) ha hb, habc, h1, h2, h3, stpN_xor, stpN_xor]
  generalize inv (stpN (8 * n) (inv 0)) = S
  generalize stpN (8 * n) (num a) = A
  generalize stpN (8 * n) (num b) = B
  generalize stpN (8 * n) (num c) = C
  apply Nat.eq_of_testBit_eq
  intro i
  simp only [Nat.testBit_xor]
  cases S.testBit i <;> cases A.testBit i <;> cases B.testBit i <;> cases C.testBit i <;> rfl
def oneA : ByteArray := ⟨#[97]⟩
theorem oneA_crc : crcOn 0 (nbN oneA) = 3904355907 := by decide +kernel
set_option maxHeartbeats 4000000 in
theorem walk (a b c : ByteArray) (w : World) (w0 : a.size ≤ 140737488351232) (w1 : b.size ≤ 140737488351232) (w2 : c.size ≤ 140737488351232) :
    Calls Try.prog 7 #[.string a, .string b, .string c] w fun e w' => e = .returned (.bool true) ∧ Below w.heap.size w w' := by
  obtain ⟨x, hx, hxn, hxs⟩ := xored_is a b w0
  obtain ⟨y, hy, hyn, hys⟩ := xored_is x c (by omega)
  have hn : y.size ≤ a.size ∧ y.size ≤ b.size ∧ y.size ≤ c.size := by omega
  have g1 := fun w => annalslaw3_xored.calls _ a b x w hx
  have g2 := fun w => annalslaw3_xored.calls _ x c y w hy
  have hk := three ((nbN a).take y.size) ((nbN b).take y.size) ((nbN c).take y.size) (fun x h => nbN_byte (List.mem_of_mem_take h)) (fun x h => nbN_byte (List.mem_of_mem_take h)) (fun x h => nbN_byte (List.mem_of_mem_take h)) y.size
    (by rw [List.length_take, nbN_length]; omega) (by rw [List.length_take, nbN_length]; omega) (by rw [List.length_take, nbN_length]; omega)
  rw [← take_zx, ← hxn, ← take_zx, ← hyn, List.take_of_length_le (by rw [nbN_length]; omega), ← nbN_extract, ← nbN_extract, ← nbN_extract] at hk
  have h1 := fun w => crc_calls y (by omega) w
  have h2 := fun w => crc_calls (a.extract 0 y.size) (by rw [ByteArray.size_extract]; omega) w
  have h3 := fun w => crc_calls (b.extract 0 y.size) (by rw [ByteArray.size_extract]; omega) w
  have h4 := fun w => crc_calls (c.extract 0 y.size) (by rw [ByteArray.size_extract]; omega) w
  have h5 : ∀ w, Calls Try.prog 8 #[.string oneA] w (Sum 3904355907 w) := fun w => by
    have := crc_calls oneA (by decide) w
    rwa [oneA_crc] at this
  have l2 : crcOn 0 (nbN (a.extract 0 y.size)) < 4294967296 := crcOn_lt (by decide) _ (fun c h => nbN_byte h)
  have l3 : crcOn 0 (nbN (b.extract 0 y.size)) < 4294967296 := crcOn_lt (by decide) _ (fun c h => nbN_byte h)
  have l4 : crcOn 0 (nbN (c.extract 0 y.size)) < 4294967296 := crcOn_lt (by decide) _ (fun c h => nbN_byte h)
  generalize crcOn 0 (nbN y) = p at *
  generalize crcOn 0 (nbN (a.extract 0 y.size)) = q at *
  generalize crcOn 0 (nbN (b.extract 0 y.size)) = r at *
  generalize crcOn 0 (nbN (c.extract 0 y.size)) = s at *
  have x1 := u32_xor_nat q r l2 l3
  have x2 := u32_xor_nat (q ^^^ r) s (xor_lt (k := 32) l2 l3) l4
  rw [← hk] at x2
  generalize q ^^^ r = qr at *
  have G1 := Lib.hid g1
  have G2 := Lib.hid g2
  have H1 := Lib.hid h1
  have H2 := Lib.hid h2
  have H3 := Lib.hid h3
  have H4 := Lib.hid h4
  have H5 := Lib.hid h5
  obtain ⟨n1, n2, n3⟩ := hn
  clear h1 h2 h3 h4 h5 g1 g2 hk hx hxn hxs hy hyn hys l2 l3 l4 w0 w1 w2
  go_enter Try.func7, Try.ntmps7
  go_wp2_with fail
  refine (G1.out _).mono ?_; rintro e w1 ⟨rfl, b1⟩
  go_wp2_with fail
  refine (G2.out _).mono ?_; rintro e w2 ⟨rfl, b2⟩
  go_wp2_with fail
  have k2 := CrcLaws.below_then b1 b1.size b2
  clear b1 b2
  go_region_with (go_at_call 8; first | ((with_reducible refine (H1.out _).mono ?_); rintro e w4 ⟨rfl, c1⟩) | ((with_reducible refine (H2.out _).mono ?_); rintro e w5 ⟨rfl, c2⟩) | ((with_reducible refine (H3.out _).mono ?_); rintro e w6 ⟨rfl, c3⟩) | ((with_reducible refine (H4.out _).mono ?_); rintro e w7 ⟨rfl, c4⟩) | (refine (H5.out _).mono ?_; rintro e w8 ⟨rfl, c5⟩))
  all_goals (go_wp2_with fail)
  all_goals go_ret
  all_goals
    have m1 := CrcLaws.below_then (pw_below_drewN k2 _) (pw_below_drewN k2 _).size c1
    have m2 := CrcLaws.below_then m1 m1.size c2
    have m3 := CrcLaws.below_then m2 m2.size c3
    have m4 := CrcLaws.below_then m3 m3.size c4
    have m5 := CrcLaws.below_then m4 m4.size c5
    exact ⟨by simp [Act.put], m5⟩
end Go.Proofs.Ytfmgpmefkjhncaa.Linear
