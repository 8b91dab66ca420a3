/- MacBurst: some bits turned within 32 that follow one another give another sum; no condition. -/
import Derived.Test.YtfmgpmefkjhncaaCrcLaws
import Derived.Lib.ConvBytes
import Derived.Deep.Draws
import Derived.RegionTactic
import Derived.BigRegion
import Derived.BigQuiet
set_option linter.unusedVariables false
namespace Go.Proofs.Ytfmgpmefkjhncaa.Burst
open Go.RowKit Go.Proofs.Ytfmgpmefkjhncaa.Base Go.Proofs.Ytfmgpmefkjhncaa.CrcPlain Go.Proofs.Ytfmgpmefkjhncaa.Crc Go.Proofs.Ytfmgpmefkjhncaa.CrcLaws

/-! ### plain: a bit turned -/
theorem num_set (cs : List Nat) (hb : ∀ c ∈ cs, c < 256) (j i : Nat) (hj : j < cs.length) (hi : i < 8) :
    num (cs.set j (cs[j] ^^^ 2 ^ i)) = num cs ^^^ 2 ^ (8 * j + i) ∧ ∀ c ∈ cs.set j (cs[j] ^^^ 2 ^ i), c < 256 := by
  induction cs generalizing j with
  | nil => simp at hj
  | cons x cs ih =>
    have hx := hb x List.mem_cons_self
    have hcs : ∀ c ∈ cs, c < 256 := fun c h => hb c (List.mem_cons_of_mem _ h)
    have hi2 : 2 ^ i < 2 ^ 8 := Nat.pow_lt_pow_right (by decide) hi
    have e : ∀ (c : Nat) (n : Nat), c < 256 → c + 256 * n = 2 ^ 8 * n ^^^ c := fun c n hc => by rw [join_xor 8 n c hc]; omega
    cases j with
    | zero =>
      have hxx : x ^^^ 2 ^ i < 256 := xor_lt (k := 8) hx hi2
      simp only [List.set_cons_zero, List.getElem_cons_zero, num]
      refine ⟨?_, fun c hc => ?_⟩
      · rw [e _ _ hxx, e _ _ hx, Nat.mul_zero, Nat.zero_add, Nat.xor_assoc]
      · simp only [List.mem_cons] at hc
        rcases hc with rfl | hc
        · exact hxx
        · exact hcs c hc
    | succ j =>
      obtain ⟨h1, h2⟩ := ih hcs j (by simpa using hj)
      simp only [List.set_cons_succ, List.getElem_cons_succ, num]
      refine ⟨?_, fun c hc => ?_⟩
      · rw [h1, e _ _ hx, e _ _ hx]
        have d : 2 ^ 8 * (num cs ^^^ 2 ^ (8 * j + i)) = 2 ^ 8 * num cs ^^^ 2 ^ 8 * 2 ^ (8 * j + i) := by
          have := Nat.shiftLeft_xor_distrib (a := num cs) (b := 2 ^ (8 * j + i)) (i := 8)
          simpa [Nat.shiftLeft_eq, Nat.mul_comm] using this
        rw [d, ← Nat.pow_add, show 8 + (8 * j + i) = 8 * (j + 1) + i by omega, Nat.xor_assoc, Nat.xor_comm (2 ^ (8 * (j + 1) + i)) x, Nat.xor_assoc]
      · simp only [List.mem_cons] at hc
        rcases hc with rfl | hc
        · exact hx
        · exact h2 c hc
theorem pat_succ (p k : Nat) : p % 2 ^ (k + 1) = p % 2 ^ k + p / 2 ^ k % 2 * 2 ^ k := by
  rw [Nat.pow_succ, Nat.mod_mul, Nat.mul_comm (2 ^ k)]
/-- What is turned behind k places. -/
def mask (p at' k : Nat) : Nat := p % 2 ^ k * 2 ^ at'
theorem mask_zero (p a : Nat) : mask p a 0 = 0 := by simp [mask, Nat.mod_one]
theorem mask_off (p a k : Nat) (h : p / 2 ^ k % 2 = 0) : mask p a (k + 1) = mask p a k := by unfold mask; rw [pat_succ, h]; simp
theorem mask_on (p a k : Nat) (h : p / 2 ^ k % 2 = 1) : mask p a (k + 1) = mask p a k ^^^ 2 ^ (a + k) := by
  unfold mask
  rw [pat_succ, h, Nat.one_mul, Nat.add_mul, ← Nat.pow_add, Nat.add_comm k a]
  have hlt : p % 2 ^ k * 2 ^ a < 2 ^ (a + k) := by
    have := Nat.mod_lt p (show 2 ^ k > 0 from Nat.pow_pos (by decide))
    rw [Nat.pow_add, Nat.mul_comm (2 ^ a)]
    exact Nat.mul_lt_mul_of_pos_right this (Nat.pow_pos (by decide))
  have := join_xor (a + k) 1 _ hlt
  rw [Nat.mul_one] at this
  rw [Nat.xor_comm, this, Nat.add_comm]
theorem mask_all (p a : Nat) (h : p < 4294967296) : mask p a 32 = p * 2 ^ a := by unfold mask; rw [Nat.mod_eq_of_lt (by omega)]
theorem other (l m : List Nat) (hl : ∀ c ∈ l, c < 256) (hm : ∀ c ∈ m, c < 256) (hlen : m.length = l.length) (p a : Nat) (hp : p ≠ 0) (hp2 : p < 4294967296) (ha : a < 8 * l.length)
    (h : num m = num l ^^^ p * 2 ^ a) : crcOn 0 l ≠ crcOn 0 m := by
  intro e
  unfold crcOn at e
  have e2 := congrArg inv e
  rw [inv_inv, inv_inv, run_eq _ _ hl, run_eq _ _ hm, hlen, h, ← Nat.xor_assoc, stpN_xor (8 * l.length) (inv 0 ^^^ num l)] at e2
  generalize stpN (8 * l.length) (inv 0 ^^^ num l) = S at e2
  have e3 : stpN (8 * l.length) (p * 2 ^ a) = 0 := by
    have := congrArg (S ^^^ ·) e2
    simp only [← Nat.xor_assoc, Nat.xor_self, Nat.zero_xor] at this
    exact this.symm
  rw [show 8 * l.length = a + (8 * l.length - a) by omega, stpN_add, Nat.mul_comm p, stpN_pow] at e3
  exact stpN_ne _ hp hp2 e3

/-! ### the walk -/
/-- The block holds these bytes, and may be written. -/
structure Own (w : World) (g : Nat) (cs : List Nat) (wx : World) : Prop where
  below : Below w.heap.size w wx
  ge : w.heap.size ≤ g
  cell : ∀ j, j < cs.length → wx.cell? ⟨g, j, none⟩ = some (.int .u8 (cs.getD j 0 : Int))
  free : ∀ j, j < cs.length → wx.frozen? ⟨g, j, none⟩ = false
theorem Own.new (w : World) (e : TypeId) (s : ByteArray) : Own w w.heap.size (nbN s) (Lib.bytesWorld w e s) := by
  have hd : ∀ j, (nbN s).getD j 0 = (s.data.toList.getD j 0).toNat := fun j => by
    simp only [nbN, List.getD_eq_getElem?_getD, List.getElem?_map]
    cases s.data.toList[j]? <;> rfl
  refine ⟨⟨rfl, rfl, rfl, by rw [Lib.bytesWorld_size]; omega, fun i hi => Lib.bytesWorld_at_old w e s i hi⟩, Nat.le_refl _, fun j hj => ?_, fun j hj => ?_⟩
  · rw [nbN_length] at hj
    rw [Lib.bytesWorld_cell w e s j hj, hd]
  · rw [nbN_length] at hj
    simp only [World.frozen?, Lib.bytesWorld_at_new]
    have : s.size ≤ (Lib.bytesCells w e s).size := by
      unfold Lib.bytesCells
      rw [Array.size_append, Array.size_map]
      exact Nat.le_add_right _ _
    have h2 : ¬ (Lib.bytesCells w e s).size ≤ j := by omega
    simp [h2]
theorem Own.set {w wx : World} {g : Nat} {cs : List Nat} (h : Own w g cs wx) (j v : Nat) (hj : j < cs.length) : Own w g (cs.set j v) (wx.setCell ⟨g, j, none⟩ (.int .u8 (v : Int))) := by
  have hg : g < wx.heap.size := World.block_lt_of_cell? wx ⟨g, j, none⟩ (h.cell j hj)
  refine ⟨h.below.setCell (by exact h.ge) _, h.ge, fun i hi => ?_, fun i hi => ?_⟩
  · rw [List.length_set] at hi
    by_cases e : i = j
    · subst e
      rw [World.cell?_setCell_same (h := h.cell i hi)]
      simp [List.getD_eq_getElem?_getD, hi]
    · rw [World.cell?_setCell_other (h := by intro x; injection x with _ x; exact e x.symm), h.cell i hi]
      rw [List.getD_eq_getElem?_getD, List.getD_eq_getElem?_getD, List.getElem?_set_ne (by omega)]
  · rw [List.length_set] at hi
    simpa using h.free i hi
theorem Own.drew {w wx : World} {g : Nat} {cs : List Nat} (h : Own w g cs wx) : Own w g cs wx.drew := ⟨h.below.drew, h.ge, h.cell, h.free⟩
theorem Own.drewN {w wx : World} {g : Nat} {cs : List Nat} (h : Own w g cs wx) (n : Nat) : Own w g cs (wx.drewN n) :=
  ⟨⟨h.below.os, h.below.tape, h.below.output, h.below.size, h.below.block⟩, h.ge, h.cell, h.free⟩
def Off (w : World) (e : Ending) (w' : World) : Prop := e = .returned (.tuple #[.string ⟨#[]⟩, .bool false]) ∧ Below w.heap.size w w'
def On (b : ByteArray) (a p : Nat) (w : World) (e : Ending) (w' : World) : Prop :=
  ∃ s : ByteArray, e = .returned (.tuple #[.string s, .bool true]) ∧ Below w.heap.size w w' ∧ s.size = b.size ∧ num (nbN s) = num (nbN b) ^^^ p * 2 ^ a ∧ a < 8 * b.size
def Turned (b : ByteArray) (a p : Nat) (w : World) (e : Ending) (w' : World) : Prop := Off w e w' ∨ On b a p w e w'
theorem off_neg (b : ByteArray) (a p : Int) (w : World) (h : a < 0) : Calls Try.prog 12 #[.string b, .int .i64 a, .int .u32 p] w (Off w) := by
  go_enter Try.func12, Try.ntmps12
  go_wp2
  go_ret2
  exact ⟨rfl, Below.refl _ _⟩
theorem off_far (b : ByteArray) (a : Nat) (p : Int) (w : World) (h : b.size ≤ a / 8) (ha : a < 9223372036854775808) : Calls Try.prog 12 #[.string b, .int .i64 (a : Int), .int .u32 p] w (Off w) := by
  have h2 : (b.size : Int) ≤ (a : Int) / 8 := by omega
  go_enter Try.func12, Try.ntmps12
  go_wp2
  go_ret2
  exact ⟨rfl, Below.refl _ _⟩
set_option maxHeartbeats 4000000 in
theorem turned_calls (b : ByteArray) (a p : Nat) (w : World) (hb : b.size ≤ 140737488351232) (ha8 : a / 8 < b.size) (hp : p < 4294967296) : Calls Try.prog 12 #[.string b, .int .i64 (a : Int), .int .u32 (p : Int)] w (Turned b a p w) := by
  have h2 : (a : Int) / 8 < (b.size : Int) := by omega
  have hcv := fun W => Lib.run_convert_string_bytes (P := Try.prog) W 9 36 5 b Try.underlying9 Try.underlying36 Try.underlying5
  have hown := Own.new w 5 b
  go_enter Try.func12, Try.ntmps12
  go_wp2
  clear hcv
  generalize Lib.bytesWorld w 5 b = w1 at *
  generalize grownCap w b.size 0 5 = cap at *
  generalize hg : w.heap.size = g at *
  have HG := Lib.hid hg
  clear hg
  go_loopw [9] (fun s9 wx => ∃ (k : Nat) (cs : List Nat), k ≤ 32 ∧ s9 = .int .i64 k ∧ Own w g cs wx ∧ Hid (cs.length = b.size) ∧ Hid (∀ c ∈ cs, c < 256) ∧ Hid (num cs = num (nbN b) ^^^ mask p a k)) (fun s9 _ => 32 - (intOf s9).toNat)
  case atStart => exact ⟨0, nbN b, by omega, rfl, hown, Lib.hid (nbN_length b), Lib.hid (fun c h => nbN_byte h), Lib.hid (by rw [mask_zero, Nat.xor_zero])⟩
  case round =>
    obtain ⟨k, cs, hk, rfl, ho, hl, hby, hs⟩ := hrel
    by_cases hlt : k < 32
    · have hlt' : (k : Int) < 32 := by omega
      have hand := and1 (p / 2 ^ k) (by have := Nat.div_le_self p (2 ^ k); omega)
      rw [Int.natCast_ediv] at hand
      have hpk : ((2 ^ k : Nat) : Int) = (2 : Int) ^ k := by simp
      rw [hpk] at hand
      rcases Nat.mod_two_eq_zero_or_one (p / 2 ^ k) with h0 | h1
      · rw [h0] at hand
        have HQ : Hid (num cs = num (nbN b) ^^^ mask p a (k + 1)) := Lib.hid (by rw [mask_off p a k h0]; exact hs.out)
        clear h0 hpk
        go_wp2
        go_roundw
        case rel => exact ⟨k + 1, cs, by omega, by go_num, ho, hl, hby, HQ⟩
        case measure => simp [intOf]; omega
      · rw [h1] at hand
        by_cases hin : (a + k) / 8 < b.size
        · obtain ⟨j, hj⟩ : ∃ j : Nat, (a + k) / 8 = j := ⟨_, rfl⟩
          obtain ⟨i, hi⟩ : ∃ i : Nat, (a + k) % 8 = i := ⟨_, rfl⟩
          have hj1 : (a : Int) / 8 + ((a : Int) % 8 + k) / 8 = (j : Int) := by omega
          have hi1 : ((a : Int) % 8 + k) % 8 = (i : Int) := by omega
          have hi8 : i < 8 := by omega
          have hjl : j < cs.length := by rw [hl.out]; omega
          have hjb : j < b.size := by omega
          have hc := ho.cell j hjl
          have hf := ho.free j hjl
          have hset := num_set cs hby.out j i hjl hi8
          have hcb : cs[j] < 256 := hby.out _ (List.getElem_mem hjl)
          have hgd : cs.getD j 0 = cs[j] := by rw [List.getD_eq_getElem?_getD, List.getElem?_eq_getElem hjl]; rfl
          rw [hgd] at hc
          have hown2 := fun v => ho.set j v hjl
          have HQ : Hid (num (cs.set j (cs[j] ^^^ 2 ^ i)) = num (nbN b) ^^^ mask p a (k + 1)) := Lib.hid (by
            rw [mask_on p a k h1, hset.1, hs.out, Nat.xor_assoc, show 8 * j + i = a + k by omega])
          have HB : Hid (∀ c ∈ cs.set j (cs[j] ^^^ 2 ^ i), c < 256) := Lib.hid hset.2
          have HL : Hid ((cs.set j (cs[j] ^^^ 2 ^ i)).length = b.size) := Lib.hid (by rw [List.length_set]; exact hl.out)
          have hO : Hid (Own w g (cs.set j (cs[j] ^^^ 2 ^ i)) (wr.setCell ⟨g, j, none⟩ (.int .u8 ((cs[j] ^^^ 2 ^ i : Nat) : Int)))) := Lib.hid (hown2 _)
          have hxr : Go.bits .xor .u8 (cs[j] : Int) ((2 ^ i : Nat) : Int) = ((cs[j] ^^^ 2 ^ i : Nat) : Int) := xor8 _ _ hcb (Nat.pow_lt_pow_right (n := 8) (by decide) hi8)
          have hp2 : ((2 ^ i : Nat) : Int) = (2 : Int) ^ i := by simp
          have h2m : (2 : Int) ^ i % 256 = 2 ^ i := by
            have hall : ∀ i, i < 8 → (2 : Int) ^ i % 256 = 2 ^ i := by decide
            exact hall i hi8
          rw [hp2] at hxr
          generalize hcv : cs[j] ^^^ 2 ^ i = cv at *
          generalize cs[j] = c0 at *
          generalize cs.set j cv = cs2 at *
          clear h1 hpk hset hgd hown2 hj hi hjl hcv hp2 ho hl hby hs hin
          go_wp2
          go_region
          go_wp2
          go_roundw
          case rel => exact ⟨k + 1, cs2, by omega, by go_num, by first | exact hO.out | exact hO.out.drew | exact hO.out.drewN _, HL, HB, HQ⟩
          case measure => simp [intOf]; omega
        · have hout : (b.size : Int) ≤ (a : Int) / 8 + ((a : Int) % 8 + k) / 8 := by omega
          have hbel := ho.below
          clear h1 hpk
          go_wp2
          go_ret2
          exact .inl ⟨rfl, hbel⟩
    · obtain rfl : k = 32 := by omega
      have hcv := run_convert_bytes_arg (P := Try.prog) wr 36 5 Try.underlying36 Try.underlying5 g 0 b.size cap (cs.map fun x : Nat => (x : Int)) (by rw [List.length_map]; exact hl.out)
        (fun i hi => by
          rw [Nat.zero_add, ho.cell i (by rw [hl.out]; exact hi), List.getD_eq_getElem?_getD, List.getD_eq_getElem?_getD, List.getElem?_map]
          cases cs[i]? <;> rfl) 9 Try.underlying9
      have hbel := ho.below
      have HN : Hid (nbN (strOfNums (cs.map fun x : Nat => (x : Int))) = cs) := Lib.hid (by
        simp only [nbN, son_list, List.map_map]
        conv => rhs; rw [← List.map_id cs]
        apply List.map_congr_left
        intro x hx
        have := hby.out x hx
        simp only [Function.comp, id, Int.toNat_natCast, UInt8.toNat_ofNat']
        omega)
      have HSz : Hid ((strOfNums (cs.map fun x : Nat => (x : Int))).size = b.size) := Lib.hid (by rw [son_size, List.length_map]; exact hl.out)
      generalize strOfNums (cs.map fun x : Nat => (x : Int)) = st at *
      clear ho
      go_wp2
      go_ret2
      refine .inr ⟨st, rfl, hbel, HSz.out, ?_, by omega⟩
      rw [HN.out, hs.out, mask_all p a hp]
theorem turned_any (b : ByteArray) (a p : Int) (w : World) (hb : b.size ≤ 140737488351232) (ha : a ≤ 9223372036854775807) (hp0 : 0 ≤ p) (hp : p < 4294967296) :
    Calls Try.prog 12 #[.string b, .int .i64 a, .int .u32 p] w (Turned b a.toNat p.toNat w) := by
  by_cases h0 : a < 0
  · exact (off_neg b a p w h0).mono fun _ _ h => .inl h
  · obtain ⟨A, rfl⟩ := Int.eq_ofNat_of_zero_le (show 0 ≤ a by omega)
    obtain ⟨P, rfl⟩ := Int.eq_ofNat_of_zero_le hp0
    rw [Int.toNat_natCast, Int.toNat_natCast]
    by_cases h1 : A / 8 < b.size
    · exact turned_calls b A P w hb h1 (by omega)
    · exact (off_far b A P w (by omega) (by omega)).mono fun _ _ h => .inl h
def oneA : ByteArray := ⟨#[97]⟩
theorem oneA_crc : crcOn 0 (nbN oneA) = 3904355907 := by decide +kernel
set_option maxHeartbeats 4000000 in
theorem walk (b : ByteArray) (a p : Int) (w : World) (w0 : b.size ≤ 140737488351232) (w1 : (Lit.int .i64 a).wf = true) (w2 : (Lit.int .u32 p).wf = true) :
    Calls Try.prog 6 #[.string b, .int .i64 a, .int .u32 p] w fun e w' => e = .returned (.bool true) ∧ Below w.heap.size w w' := by
  obtain ⟨a0, a1⟩ := wf_i64 w1
  obtain ⟨p0, p1⟩ := wf_u32 w2
  have h1 := fun w => turned_any b a p w w0 a1 p0 p1
  have h2 := fun w => crc_calls b (by omega) w
  have h5 : ∀ w, Calls Try.prog 8 #[.string oneA] w (Sum 3904355907 w) := fun w => by
    have := crc_calls oneA (by decide) w
    rwa [oneA_crc] at this
  have hoth := fun (s : ByteArray) (hp : p.toNat ≠ 0) (h : s.size = b.size) => other (nbN b) (nbN s) (fun c h => nbN_byte h) (fun c h => nbN_byte h) (by rw [nbN_length, nbN_length]; exact h) p.toNat a.toNat hp (by omega)
  rw [nbN_length] at hoth
  generalize crcOn 0 (nbN b) = q at *
  have H1 := Lib.hid h1
  have H2 := Lib.hid h2
  have H5 := Lib.hid h5
  have HO := Lib.hid hoth
  clear h1 h2 h5 hoth w1 w2
  go_enter Try.func6, Try.ntmps6
  go_wp2_with fail
  refine (H1.out _).mono ?_
  rintro e w1 (⟨rfl, b1⟩ | ⟨s, rfl, b1, hsz, hnum, hal⟩)
  · go_wp2_with fail
    refine (H5.out _).mono ?_; rintro e w2 ⟨rfl, b2⟩
    go_wp2_with fail
    go_ret
    exact ⟨by simp, CrcLaws.below_then b1 b1.size b2⟩
  · by_cases hp : p = 0
    · have hp' : (p == 0) = true := beq_iff_eq.2 hp
      have HP := Lib.hid hp
      have HN := Lib.hid hnum
      clear hp hnum hsz
      go_wp2_with fail
      refine (H5.out _).mono ?_; rintro e w2 ⟨rfl, b2⟩
      go_wp2_with fail
      go_ret
      exact ⟨by simp, CrcLaws.below_then b1 b1.size b2⟩
    · have hp' : (p == 0) = false := beq_eq_false_iff_ne.2 hp
      have hne := HO.out s (by omega) hsz hal hnum
      have h3 := fun w => crc_calls s (by omega) w
      generalize crcOn 0 (nbN s) = q2 at *
      have H3 := Lib.hid h3
      have hq : ((q : Int) != (q2 : Int)) = true := by rw [bne_iff_ne]; omega
      clear h3 hne hnum hsz HO hp
      go_wp2_with fail
      refine (H2.out _).mono ?_; rintro e w2 ⟨rfl, b2⟩
      go_wp2_with fail
      refine (H3.out _).mono ?_; rintro e w3 ⟨rfl, b3⟩
      go_wp2_with fail
      go_ret
      have k2 := CrcLaws.below_then b1 b1.size b2
      exact ⟨by simp, CrcLaws.below_then k2 k2.size b3⟩
end Go.Proofs.Ytfmgpmefkjhncaa.Burst
