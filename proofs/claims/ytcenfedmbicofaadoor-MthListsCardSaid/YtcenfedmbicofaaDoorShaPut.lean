/- sha.put, sha.padding, (*sha.state).text: their walks. -/
import Derived.Test.YtcenfedmbicofaaDoorBuf
import Derived.Test.YtcenfedmbicofaaDoorShaRot
import Derived.Test.YtcenfedmbicofaaDoorShaTake
set_option linter.unusedVariables false
set_option linter.unusedSimpArgs false
namespace Go.Proofs.YtcenfedmbicofaaDoor.ShaPut
open Go.RowKit Go.Proofs.YtcenfedmbicofaaDoor.Base Go.Proofs.YtcenfedmbicofaaDoor.ShaPlain Go.Proofs.YtcenfedmbicofaaDoor.ShaRot Go.Proofs.YtcenfedmbicofaaDoor.Mem Go.Proofs.YtcenfedmbicofaaDoor.Buf Go.Proofs.YtcenfedmbicofaaDoor.ShaTake

/-- A number in bytes, the highest first. -/
def beN (v : Nat) : Nat → List Nat
  | 0 => []
  | i + 1 => v / 256 ^ i % 256 :: beN v i
theorem beN_length (v n : Nat) : (beN v n).length = n := by
  induction n with
  | zero => rfl
  | succ n ih => simp [beN, ih]
theorem beN_byte (v n : Nat) : ∀ x ∈ beN v n, x < 256 := by
  induction n with
  | zero => intro x h; exact absurd h (by simp [beN])
  | succ n ih =>
    intro x h
    simp only [beN, List.mem_cons] at h
    rcases h with rfl | h
    · exact Nat.mod_lt _ (by decide)
    · exact ih x h
def Put (base : Nat) (bs : List Nat) (w : World) (e : Ending) (w' : World) : Prop := ∃ v, e = .returned v ∧ Buf w' base v bs ∧ Below base w w'
set_option maxHeartbeats 1000000 in
theorem put_calls (base : Nat) (vb : Value) (bs : List Nat) (v n : Nat) (hv : v < 18446744073709551616) (hn : n ≤ 8) (hl : bs.length ≤ 1000000000000) (w : World) (hb : Buf w base vb bs) (hbase : base ≤ w.heap.size) :
    Calls Tryd.prog 93 #[vb, .int .u64 (v : Int), .int .i64 (n : Int)] w (Put base (bs ++ beN v n) w) := by
  go_enter Tryd.func93, Tryd.ntmps93
  go_wp2
  go_loopw [0, 2] (fun s0 s2 wx => ∃ (i : Nat) (xs : List Nat), i ≤ n ∧ s2 = .int .i64 ((i : Int) - 1) ∧ Buf wx base s0 xs ∧ Hid (xs ++ beN v i = bs ++ beN v n) ∧ xs.length + i = bs.length + n ∧ Below base w wx) (fun _ s2 _ => (intOf s2 + 1).toNat)
  case atStart => exact ⟨n, bs, by omega, rfl, hb, Lib.hid rfl, rfl, Below.refl _ _⟩
  case round =>
    obtain ⟨i, xs, hi, rfl, hb, hs, hxl, hbl⟩ := hrel
    cases i with
    | zero =>
      go_wp2
      go_ret
      have := hs.out
      rw [show beN v 0 = [] from rfl, List.append_nil] at this
      exact ⟨_, rfl, by rw [← this]; exact hb, hbl⟩
    | succ j =>
      rw [show ((j + 1 : Nat) : Int) - 1 = (j : Int) by omega]
      have hsh : (8 : Int) * (j : Int) ≤ 56 := by omega
      obtain ⟨y, hy, hbe⟩ : ∃ y : Nat, (y : Int) = (v : Int) / 2 ^ (8 * j) % 256 ∧ beN v (j + 1) = y :: beN v j :=
        ⟨v / 256 ^ j % 256, by rw [show (256 : Nat) ^ j = 2 ^ (8 * j) by rw [Nat.pow_mul]]; simp, rfl⟩
      have HY := Lib.hid hy
      have HQ : Hid ((xs ++ [y]) ++ beN v j = bs ++ beN v n) := Lib.hid (by rw [List.append_assoc, List.singleton_append, ← hbe]; exact hs.out)
      have HBS := Lib.hid hbl
      have HBB := Lib.hid hb
      have hwl := hbl.size
      have hbu : base ≤ wr.heap.size := Nat.le_trans hbase hwl
      clear hy hbe hs hbl hb
      go_wp2_with (at_builtin; refine wpList_buf rfl (.tmp 13) (.tmp 19) rfl base _ xs rfl (HBB.out.alloc _) ⟨wr.heap.size, 0, none⟩ 1 1 [y] rfl rfl (cell_new1 wr _ _ y HY.out) (by omega) (by simp; omega) ?_; intro v' w' hbuf' hbl')
      go_roundw
      case rel => exact ⟨j, xs ++ [y], by omega, by go_num, hbuf', HQ, by simp; omega, (HBS.out.alloc hbu _).trans hbl'⟩
      case measure => simp [intOf]
/-- What is put behind a text of n bytes. -/
def zeros (n : Nat) : Nat := (119 - n % 64) % 64
def pad (n : Nat) : List Nat := (128 :: List.replicate (zeros n) 0) ++ beN (8 * n) 8
theorem pad_byte (n : Nat) : ∀ x ∈ pad n, x < 256 := by
  intro x hx
  simp only [pad, List.mem_append, List.mem_cons, List.mem_replicate] at hx
  rcases hx with (rfl | ⟨_, rfl⟩) | hx
  · decide
  · decide
  · exact beN_byte _ _ _ hx
theorem pad_length (n : Nat) : (pad n).length = zeros n + 9 := by simp [pad, beN_length]
def Padded (n : Nat) (w : World) (e : Ending) (w' : World) : Prop := ∃ p : ByteArray, e = .returned (.string p) ∧ nbN p = pad n ∧ Below w.heap.size w w'
set_option maxHeartbeats 1000000 in
theorem padding_calls (n : Nat) (hn : n ≤ 1000000000000000) (w : World) : Calls Tryd.prog 86 #[.int .i64 (n : Int)] w (Padded n w) := by
  have hb0 := Buf.new1 w 5 w.heap.size (Nat.le_refl _) 128
  have hl0 := (Below.refl w.heap.size w).alloc (Nat.le_refl _) (.cells #[.int .u8 ((128 : Nat) : Int)] 5)
  go_enter Tryd.func86, Tryd.ntmps86
  go_wp2
  go_loopw [3] (fun s3 wx => ∃ (k : Nat) (xs : List Nat), k ≤ zeros n ∧ Hid (xs = 128 :: List.replicate k 0) ∧ xs.length = k + 1 ∧ Buf wx w.heap.size s3 xs ∧ Below w.heap.size w wx) (fun s3 _ => match s3 with | .slice _ l _ => 65 - l | _ => 0)
  case atStart => exact ⟨0, [128], by omega, Lib.hid rfl, rfl, hb0, hl0⟩
  case round =>
    obtain ⟨k, xs, hk, hx, hxl, hb, hbl⟩ := hrel
    obtain ⟨A, cap, rfl⟩ := hb.shape
    have hz : zeros n < 64 := Nat.mod_lt _ (by decide)
    have hze : zeros n = (119 - n % 64) % 64 := rfl
    generalize zeros n = z at *
    have hxl' := hxl
    rw [hxl] at hb ⊢
    clear hxl
    have hwl := hbl.size
    have HBB := Lib.hid hb
    have HBS := Lib.hid hbl
    have HX := Lib.hid hxl'
    clear hb hbl hxl'
    by_cases hlt : k < z
    · have hne : (((n : Int) + ((k : Int) + 1)) % 64 != 56) = true := by rw [bne_iff_ne]; omega
      have HZ := Lib.hid hze
      have HXX : Hid (xs ++ [0] = 128 :: List.replicate (k + 1) 0) := Lib.hid (by rw [hx.out, List.replicate_succ']; rfl)
      clear hze hx
      go_wp2_with (at_builtin; refine wpList_buf rfl (.tmp 11) (.tmp 12) rfl w.heap.size _ xs rfl (HBB.out.alloc _) ⟨wr.heap.size, 0, none⟩ 1 1 [0] rfl rfl (cell_new1 wr _ _ 0 rfl) (by rw [HX.out]; omega) (by simp; omega) ?_; intro v' w' hbuf' hbl')
      go_roundw
      case rel => exact ⟨k + 1, xs ++ [0], by omega, HXX, by rw [List.length_append, HX.out]; rfl, hbuf', (HBS.out.alloc hwl _).trans hbl'⟩
      case measure =>
        obtain ⟨A2, cap2, rfl⟩ := hbuf'.shape
        simp [HX.out]; omega
    · have hkz : k = z := by omega
      have hne : (((n : Int) + ((k : Int) + 1)) % 64 != 56) = false := by rw [bne_eq_false_iff_eq]; omega
      have HPAD : Hid (xs ++ beN (8 * n) 8 = pad n) := Lib.hid (by rw [hx.out, hkz, hze]; rfl)
      have HPUT := Lib.hid (fun W (h : Buf W w.heap.size (.slice A (k + 1) cap) xs) (hle : w.heap.size ≤ W.heap.size) => put_calls w.heap.size _ xs (8 * n) 8 (by omega) (by omega) (by rw [HX.out]; omega) W h hle)
      rw [HPAD.out, show ((8 * n : Nat) : Int) = 8 * (n : Int) by omega] at HPUT
      clear hze hx hkz
      go_wp2_with fail
      refine (HPUT.out _ HBB.out hwl).mono ?_; rintro e w2 ⟨v, rfl, hb2, hbl2⟩
      obtain ⟨g, cap2, rfl, hcl⟩ := hb2.text (by intro h; have := congrArg List.length h; rw [pad_length] at this; simp at this)
      have hcv := run_convert_bytes_arg (P := Tryd.prog) w2 78 5 Tryd.underlying78 Tryd.underlying5 g 0 (pad n).length cap2 ((pad n).map fun x : Nat => (x : Int)) (by rw [List.length_map]) hcl 9 Tryd.underlying9
      have HNB := Lib.hid (nbN_nums (pad n) (pad_byte n))
      have HB2 := Lib.hid (HBS.out.trans hbl2)
      generalize strOfNums ((pad n).map fun x : Nat => (x : Int)) = st at *
      clear hb2 hcl hbl2
      go_wp2
      go_ret
      exact ⟨st, rfl, HNB.out, HB2.out⟩
/-- A state in bytes. -/
def stBytes (s : St) : List Nat := s.list.flatMap fun x => beN x 4
def Texted (s : St) (w : World) (e : Ending) (w' : World) : Prop := ∃ p : ByteArray, e = .returned (.string p) ∧ nbN p = stBytes s ∧ Below w.heap.size w w'
theorem flat_succ (l : List Nat) (i : Nat) (h : i < l.length) : (l.take (i + 1)).flatMap (fun x => beN x 4) = (l.take i).flatMap (fun x => beN x 4) ++ beN (l.getD i 0) 4 := by
  rw [List.take_succ_eq_append_getElem h, List.flatMap_append]
  simp [List.getD_eq_getElem?_getD, h]
theorem flat_len (l : List Nat) : (l.flatMap fun x => beN x 4).length = 4 * l.length := by
  induction l with
  | nil => rfl
  | cons x l ih => rw [List.flatMap_cons, List.length_append, beN_length, ih, List.length_cons]; omega
theorem flat_byte (l : List Nat) : ∀ x ∈ (l.flatMap fun x => beN x 4), x < 256 := by
  intro x hx
  obtain ⟨y, _, hy⟩ := List.mem_flatMap.1 hx
  exact beN_byte _ _ _ hy
set_option maxHeartbeats 1000000 in
theorem text_calls (s : St) (hs : s.Ok) (r : List Nat) (n : Int) (b : Nat) (w : World) (hb : Row w b (hcells s r n) 110) : Calls Tryd.prog 87 #[.pointer (some ⟨b, 0, none⟩)] w (Texted s w) := by
  obtain ⟨w1, hmk, hb1, hl1⟩ := make_bytes w 32 (by decide)
  have hmk : (Instr.makeSlice 78 (.int .i64 0) (.int .i64 32)).run Tryd.prog w = .ok (.slice (some ⟨w.heap.size, 0, none⟩) 0 32) w1 := hmk
  have HR := Lib.hid hb
  have HLT := Lib.hid hb.lt
  have HS := Lib.hid hs
  clear hb hs
  go_enter Tryd.func87, Tryd.ntmps87
  go_wp2
  clear hmk
  go_loopw [3, 8] (fun s3 s8 wx => ∃ (i : Nat), i ≤ 8 ∧ s8 = .int .i64 i ∧ Buf wx w.heap.size s3 ((s.list.take i).flatMap fun x => beN x 4) ∧ Below w.heap.size w wx) (fun _ s8 _ => 8 - (intOf s8).toNat)
  case atStart => exact ⟨0, by omega, rfl, hb1, hl1⟩
  case round =>
    obtain ⟨i, hi, rfl, hb, hbl⟩ := hrel
    have hwl := hbl.size
    have hfl := flat_len (s.list.take i)
    have hll : s.list.length = 8 := rfl
    by_cases hlt : i < 8
    · have hlt' : (i : Int) < 8 := by omega
      have hc := ((HR.out.below hbl HLT.out).cell i).trans (hcells_low s r n i _ (arr8_get i s hlt))
      have hsm : s.list.getD i 0 < 4294967296 := by
        obtain ⟨k1, k2, k3, k4, k5, k6, k7, k8⟩ := HS.out
        rcases lt8 hlt with rfl | rfl | rfl | rfl | rfl | rfl | rfl | rfl <;> assumption
      have hfs := flat_succ s.list i (by omega)
      generalize s.list.getD i 0 = x at *
      rw [List.length_take, hll, Nat.min_eq_left (by omega)] at hfl
      have HPUT := Lib.hid (put_calls w.heap.size u3 _ x 4 (by omega) (by omega) (by rw [hfl]; omega) wr hb hwl)
      rw [← hfs] at HPUT
      have HBS := Lib.hid hbl
      clear hb hbl hfl hfs hll
      go_wp2_with fail
      refine HPUT.out.mono ?_; rintro e w2 ⟨v, rfl, hb2, hbl2⟩
      go_wp2
      go_roundw
      case rel => exact ⟨i + 1, by omega, by go_num, hb2, HBS.out.trans hbl2⟩
      case measure => simp [intOf]; omega
    · have hi8 : i = 8 := by omega
      rw [hi8] at hb hfl
      have hlt' : ¬ (i : Int) < 8 := by omega
      have hst : ((s.list.take 8).flatMap fun x => beN x 4) = stBytes s := rfl
      rw [hst] at hb hfl
      obtain ⟨g, cap2, rfl, hcl⟩ := hb.text (by intro h; have := congrArg List.length h; rw [hfl] at this; simp [hll] at this)
      have hcv := run_convert_bytes_arg (P := Tryd.prog) wr 78 5 Tryd.underlying78 Tryd.underlying5 g 0 (stBytes s).length cap2 ((stBytes s).map fun x : Nat => (x : Int)) (by rw [List.length_map]) hcl 9 Tryd.underlying9
      have HNB := Lib.hid (nbN_nums (stBytes s) (flat_byte s.list))
      have HBS := Lib.hid hbl
      generalize strOfNums ((stBytes s).map fun x : Nat => (x : Int)) = st at *
      clear hb hcl hbl hst hfl hll
      go_wp2
      go_ret
      exact ⟨st, rfl, HNB.out, HBS.out⟩
end Go.Proofs.YtcenfedmbicofaaDoor.ShaPut
