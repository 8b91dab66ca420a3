/- mac.Sum: its walk. -/
import Derived.Test.YtkhcinnpfpkhnaaDoorShaDig
set_option linter.unusedVariables false
set_option linter.unusedSimpArgs false
namespace Go.Proofs.YtkhcinnpfpkhnaaDoor.Mac
open Go.RowKit Go.Lib Go.Proofs.YtkhcinnpfpkhnaaDoor.Base Go.Proofs.YtkhcinnpfpkhnaaDoor.ShaPlain Go.Proofs.YtkhcinnpfpkhnaaDoor.ShaRot Go.Proofs.YtkhcinnpfpkhnaaDoor.Arr Go.Proofs.YtkhcinnpfpkhnaaDoor.Mem Go.Proofs.YtkhcinnpfpkhnaaDoor.Buf Go.Proofs.YtkhcinnpfpkhnaaDoor.ShaKit Go.Proofs.YtkhcinnpfpkhnaaDoor.ShaDig

/-! ### plain -/
def keyL (key : ByteArray) : List Nat := if 64 < key.size then nbN (dig key) else nbN key
def blk (key : ByteArray) : List Nat := keyL key ++ List.replicate (64 - (keyL key).length) 0
def mixL (key : ByteArray) (x : Nat) : List Nat := (blk key).map fun b => b ^^^ x
def mix (key : ByteArray) (x : Nat) : ByteArray := txt (mixL key x)
/-- The code of a text under a key. -/
def mac (key msg : ByteArray) : ByteArray := dig (mix key 92 ++ dig (mix key 54 ++ msg))
theorem keyL_le (key : ByteArray) : (keyL key).length ≤ 64 := by
  unfold keyL
  split
  · rw [nbN_length, dig_size]; decide
  · rw [nbN_length]; omega
theorem blk_length (key : ByteArray) : (blk key).length = 64 := by
  have := keyL_le key
  rw [blk, List.length_append, List.length_replicate]; omega
theorem blk_byte (key : ByteArray) : ∀ x ∈ blk key, x < 256 := by
  intro x hx
  rcases List.mem_append.1 hx with h | h
  · unfold keyL at h; split at h <;> exact nbN_byte h
  · rw [List.eq_of_mem_replicate h]; decide
theorem mixL_byte (key : ByteArray) (x : Nat) (hx : x < 256) : ∀ y ∈ mixL key x, y < 256 := by
  intro y hy
  simp only [mixL, List.mem_map] at hy
  obtain ⟨b, hb, rfl⟩ := hy
  exact Nat.xor_lt_two_pow (n := 8) (blk_byte key b hb) hx
theorem mix_size (key : ByteArray) (x : Nat) : (mix key x).size = 64 := by rw [mix, txt_size, mixL, List.length_map, blk_length]
theorem mac_size (key msg : ByteArray) : (mac key msg).size = 32 := dig_size _
theorem keyL_short (key : ByteArray) (h : key.size ≤ 64) : keyL key = nbN key := by rw [keyL, if_neg (by omega)]
theorem keyL_long (key : ByteArray) (h : 64 < key.size) : keyL key = nbN (dig key) := by rw [keyL, if_pos h]

/-! ### an array of bytes, xored one by one -/
def u8s (l : List Nat) : Array Value := (l.map fun x : Nat => Value.int .u8 (x : Int)).toArray
theorem u8s_size (l : List Nat) : (u8s l).size = l.length := by simp [u8s]
theorem u8s_get (l : List Nat) (i : Nat) (h : i < l.length) : (u8s l)[i]? = some (.int .u8 (l.getD i 0 : Int)) := by simp [u8s, List.getD_eq_getElem?_getD, h]
theorem u8s_one (l : List Nat) : (u8s l).all (·.oneCell') = true := by
  rw [Array.all_eq_true']
  intro x hx
  simp only [u8s, List.mem_toArray, List.mem_map] at hx
  obtain ⟨_, _, rfl⟩ := hx
  rfl
def part (l : List Nat) (x i : Nat) : List Nat := (l.take i).map (fun b => b ^^^ x) ++ l.drop i
theorem part_zero (l : List Nat) (x : Nat) : part l x 0 = l := by simp [part]
theorem part_length (l : List Nat) (x i : Nat) : (part l x i).length = l.length := by simp [part]; omega
theorem part_get (l : List Nat) (x i : Nat) (h : i < l.length) : (part l x i).getD i 0 = l.getD i 0 := by
  simp [part, List.getD_eq_getElem?_getD, List.getElem?_append_right, Nat.min_eq_left (Nat.le_of_lt h)]
theorem part_set (l : List Nat) (x i : Nat) (h : i < l.length) : (u8s (part l x i)).setIfInBounds i (.int .u8 ((l.getD i 0 ^^^ x : Nat) : Int)) = u8s (part l x (i + 1)) := by
  have e : (u8s (part l x i)).setIfInBounds i (.int .u8 ((l.getD i 0 ^^^ x : Nat) : Int)) = u8s ((part l x i).set i (l.getD i 0 ^^^ x)) := by simp [u8s, List.map_set]
  rw [e]
  congr 1
  unfold part
  rw [List.set_append_right _ _ (by simp; omega), List.take_succ_eq_append_getElem h, List.map_append, List.append_assoc]
  congr 1
  rw [List.length_map, List.length_take, Nat.min_eq_left (Nat.le_of_lt h), Nat.sub_self, List.drop_eq_getElem_cons h, List.set_cons_zero, List.getD_eq_getElem?_getD, List.getElem?_eq_getElem h]
  rfl
theorem getD_ints (l : List Nat) (i : Nat) : (l.map fun x : Nat => (x : Int)).getD i 0 = ((l.getD i 0 : Nat) : Int) := by
  rw [List.getD_eq_getElem?_getD, List.getD_eq_getElem?_getD, List.getElem?_map]
  cases l[i]? <;> rfl
theorem part_all (l : List Nat) (x : Nat) (n : Nat) (h : n = l.length) : part l x n = l.map fun b => b ^^^ x := by subst h; simp [part]
theorem info64 : (Tryd.prog.info? 65).map (fun i => (i.zero, i.size)) = some (some (.agg (Array.replicate 64 (.int .u8 0))), 64) := by kernel_rfl
theorem rep_u8s : (Array.replicate 64 (.int .u8 0) : Array Value) = u8s (List.replicate 64 0) := by kernel_rfl
def Mixed (l : List Nat) (x : Nat) (w : World) (e : Ending) (w' : World) : Prop := e = .returned (.string (txt (l.map fun b => b ^^^ x))) ∧ Below w.heap.size w w'
theorem xor8 (a b : Nat) (ha : a < 256) (hb : b < 256) : Go.bits .xor .u8 (a : Int) (b : Int) = ((a ^^^ b : Nat) : Int) := u8_xor_nat a b ha hb
set_option maxHeartbeats 1000000 in
set_option maxRecDepth 100000 in
theorem mixed_calls (l : List Nat) (hl : l.length = 64) (hb : ∀ y ∈ l, y < 256) (x : Nat) (hx : x < 256) (g : Nat) (w : World) (hr : Row w g (u8s l) 65) :
    Calls Tryd.prog 51 #[.int .u8 (x : Int), .pointer (some ⟨g, 0, none⟩)] w (Mixed l x w) := by
  obtain ⟨hz64, hi64⟩ := zero_of_info info64
  have HI := Lib.hid hi64
  have HSZ := Lib.hid (u8s_size l)
  have HL := Lib.hid hl
  have HR := Lib.hid hr
  have HONE := Lib.hid (u8s_one l)
  have HB := Lib.hid hb
  clear hi64 hl hr hb
  go_enter Tryd.func51, Tryd.ntmps51
  go_wp2_with (first
    | (refine wpList_load_row rfl 65 _ rfl g rfl 65 (u8s l) (0, 0) _ HR.out Tryd.underlying65 rfl (by rw [HSZ.out, HL.out]; exact HI.out) ?_)
    | (refine wpList_put_row rfl 65 _ _ rfl w.heap.size rfl (u8s l) rfl 65 _ (heap_alloc_new w _) (by rw [HSZ.out, HL.out]; exact HI.out) (by rw [HSZ.out, HL.out]; simp) HONE.out ?_; rw [World.setRow_alloc_new]))
  have q2 := Row.new w (u8s l) 65
  have qb := (Below.refl w.heap.size w).alloc (Nat.le_refl _) (.cells (u8s l) 65)
  have hg2 : w.heap.size ≤ w.heap.size := Nat.le_refl _
  generalize w.alloc (.cells (u8s l) 65) = wz at *
  generalize hge : w.heap.size = g2 at q2 hg2 ⊢
  have HGE := Lib.hid hge
  clear hge
  go_loopw [7] (fun s7 wx => ∃ i : Nat, i ≤ 64 ∧ s7 = .int .i64 i ∧ Row wx g2 (u8s (part l x i)) 65 ∧ Below w.heap.size w wx) (fun s7 _ => 64 - (intOf s7).toNat)
  case atStart => exact ⟨0, by omega, rfl, by rw [part_zero]; exact q2, qb⟩
  case round =>
    obtain ⟨i, hi, rfl, hr, hbl⟩ := hrel
    by_cases hlt : i < 64
    · have hlt' : (i : Int) < 64 := by omega
      have hil : i < l.length := by rw [HL.out]; exact hlt
      have c := (hr.cell i).trans (u8s_get (part l x i) i (by rw [part_length]; exact hil))
      rw [part_get l x i hil] at c
      have f := hr.free i
      have hxr := xor8 (l.getD i 0) x (by rw [List.getD_eq_getElem?_getD, List.getElem?_eq_getElem hil]; exact HB.out _ (List.getElem_mem hil)) hx
      have HP : Hid (∀ wy, wy = wr.setCell ⟨g2, i, none⟩ (.int .u8 ((l.getD i 0 ^^^ x : Nat) : Int)) → Row wy g2 (u8s (part l x (i + 1))) 65 ∧ Below w.heap.size w wy) := Lib.hid fun wy e => by
        subst e
        have := hr.set i (.int .u8 ((l.getD i 0 ^^^ x : Nat) : Int))
        rw [part_set l x i hil] at this
        exact ⟨this, hbl.setCell (p := ⟨g2, i, none⟩) (by rw [HGE.out]; exact Nat.le_refl _) _⟩
      generalize l.getD i 0 = b at *
      clear hr hbl hil
      go_wp2
      go_roundw
      case rel => exact ⟨i + 1, by omega, by go_num, HP.out _ rfl⟩
      case measure => simp [intOf]; omega
    · have hi64 : i = 64 := by omega
      have hlt' : ¬ (i : Int) < 64 := by omega
      rw [hi64, part_all l x 64 HL.out.symm] at hr
      have hlm : (l.map fun b => b ^^^ x).length = 64 := by rw [List.length_map, HL.out]
      have hcl : ∀ j, j < 64 → wr.cell? ⟨g2, 0 + j, none⟩ = some (.int .u8 (((l.map fun b => b ^^^ x).map fun x : Nat => (x : Int)).getD j 0)) := by
        intro j hj
        rw [Nat.zero_add, hr.cell, u8s_get _ _ (by rw [hlm]; exact hj), getD_ints]
      have hcv := run_convert_bytes_arg (P := Tryd.prog) wr 57 5 Tryd.underlying57 Tryd.underlying5 g2 0 64 64 ((l.map fun b => b ^^^ x).map fun x : Nat => (x : Int)) (by rw [List.length_map, hlm]) hcl 9 Tryd.underlying9
      have HV : Hid (strOfNums ((l.map fun b => b ^^^ x).map fun x : Nat => (x : Int)) = txt (l.map fun b => b ^^^ x)) := Lib.hid rfl
      generalize strOfNums ((l.map fun b => b ^^^ x).map fun x : Nat => (x : Int)) = st at *
      clear hr hcl hlm
      go_wp2
      go_ret
      exact ⟨by rw [HV.out]; rfl, hbl⟩
theorem u8s_list (l : List Nat) : (u8s l).toList = l.map fun x : Nat => Value.int .u8 (x : Int) := rfl
theorem cells_copy (k : ByteArray) (hk : k.size ≤ 64) : ((u8s (List.replicate 64 0)).toList.take 0 ++ byteCells (k.data.toList.take k.size) ++ (u8s (List.replicate 64 0)).toList.drop (0 + k.size)).toArray = u8s (nbN k ++ List.replicate (64 - k.size) 0) := by
  rw [byteCells_nb, List.map_take, show k.data.toList.map UInt8.toNat = nbN k from rfl, List.take_of_length_le (show (nbN k).length ≤ k.size by rw [nbN_length]; exact Nat.le_refl _), List.take_zero, List.nil_append, Nat.zero_add, u8s_list, ← List.map_drop, List.drop_replicate, u8s, List.map_append]
theorem size_app (x y : ByteArray) : (x ++ y).size = x.size + y.size := ByteArray.size_append
set_option maxHeartbeats 2000000 in
set_option maxRecDepth 100000 in
theorem macSum_calls (key msg : ByteArray) (hk : key.size ≤ 800000000000000) (hm : msg.size ≤ 800000000000000) (w : World) (hT : Tab w) :
    Calls Tryd.prog 30 #[.string key, .string msg] w (Gives (mac key msg) w) := by
  have HMX : Hid (∀ (x : Nat) (g : Nat) (W : World), x < 256 → Row W g (u8s (blk key)) 65 → Calls Tryd.prog 51 #[.int .u8 (x : Int), .pointer (some ⟨g, 0, none⟩)] W (Gives (mix key x) W)) :=
    Lib.hid fun x g W hx hr => mixed_calls (blk key) (blk_length key) (blk_byte key) x hx g W hr
  have HS : Hid (∀ (s : ByteArray) (W : World), s.size ≤ 900000000000000 → Below w.heap.size w W → Calls Tryd.prog 21 #[.string s] W (Gives (dig s) W)) :=
    Lib.hid fun s W hs hb => shaSum_calls s hs W (hT.below hb)
  have HS2 : Hid ((mix key 54 ++ msg).size = 64 + msg.size) := Lib.hid (by rw [size_app, mix_size])
  have HS3 : Hid ((mix key 92 ++ dig (mix key 54 ++ msg)).size = 96) := Lib.hid (by rw [size_app, mix_size, dig_size])
  have hx1 := mix_size key 54
  have hx2 := mix_size key 92
  have hx3 := dig_size (mix key 54 ++ msg)
  by_cases h : 64 < key.size
  · have HKS : Hid ((dig key).size ≤ 64) := Lib.hid (by rw [dig_size]; decide)
    have HMIN : Hid (Nat.min (dig key).size 64 = (dig key).size) := Lib.hid (Nat.min_eq_left HKS.out)
    have HCELLS : Hid (((u8s (List.replicate 64 0)).toList.take 0 ++ byteCells ((dig key).data.toList.take (Nat.min (dig key).size 64)) ++ (u8s (List.replicate 64 0)).toList.drop (0 + Nat.min (dig key).size 64)).toArray = u8s (blk key)) :=
      Lib.hid (by rw [HMIN.out, cells_copy _ HKS.out, blk, keyL_long key h, nbN_length])
    clear hT
    go_enter Tryd.func30, Tryd.ntmps30
    go_wp2_with fail
    refine (HS.out key w (by omega) (Below.refl _ _)).mono ?_; rintro e W0 ⟨rfl, B0⟩
    have HB0 := Lib.hid B0
    clear B0
    go_wp2_with (refine wpList_copy_str rfl (.tmp 12) (.tmp 13) 57 9 rfl 5 Tryd.underlying57 rfl W0.heap.size 0 64 64 (dig key) rfl rfl (u8s (List.replicate 64 0)) 65 (show _ from heap_alloc_new W0 (.cells (u8s (List.replicate 64 0)) 65)) (by rw [HMIN.out, u8s_size, Nat.zero_add]; exact HKS.out) ?_; rw [World.setRow_alloc_new, HCELLS.out])
    refine (HMX.out 92 _ _ (by decide) (Row.new W0 (u8s (blk key)) 65)).mono ?_; rintro e W1 ⟨rfl, C1⟩
    have R1 := (Row.new W0 (u8s (blk key)) 65).below C1 (by simp)
    have B1 := HB0.out.trans (((Below.refl W0.heap.size W0).alloc (Nat.le_refl _) (.cells (u8s (blk key)) 65)).trans (C1.mono (by simp)) |>.mono HB0.out.size)
    have hz1 := B1.size
    clear C1
    go_wp2_with fail
    refine (HMX.out 54 _ _ (by decide) R1).mono ?_; rintro e W2 ⟨rfl, C2⟩
    have B2 := B1.trans (C2.mono hz1)
    have hz2 := B2.size
    clear C2 B1 R1
    go_wp2_with fail
    refine (HS.out (mix key 54 ++ msg) W2 (by have := HS2.out; omega) B2).mono ?_; rintro e W3 ⟨rfl, C3⟩
    have B3 := B2.trans (C3.mono hz2)
    have hz3 := B3.size
    clear C3 B2
    go_wp2_with fail
    refine (HS.out (mix key 92 ++ dig (mix key 54 ++ msg)) W3 (by have := HS3.out; omega) B3).mono ?_; rintro e W4 ⟨rfl, C4⟩
    have B4 := B3.trans (C4.mono hz3)
    clear C4 B3
    go_wp2
    go_ret
    exact ⟨rfl, B4⟩
  · have HKS : Hid (key.size ≤ 64) := Lib.hid (by omega)
    have HMIN : Hid (Nat.min key.size 64 = key.size) := Lib.hid (Nat.min_eq_left HKS.out)
    have HCELLS : Hid (((u8s (List.replicate 64 0)).toList.take 0 ++ byteCells (key.data.toList.take (Nat.min key.size 64)) ++ (u8s (List.replicate 64 0)).toList.drop (0 + Nat.min key.size 64)).toArray = u8s (blk key)) :=
      Lib.hid (by rw [HMIN.out, cells_copy _ HKS.out, blk, keyL_short key (by omega), nbN_length])
    have HB0 := Lib.hid (Below.refl w.heap.size w)
    clear hT
    go_enter Tryd.func30, Tryd.ntmps30
    go_wp2_with (refine wpList_copy_str rfl (.tmp 12) (.tmp 13) 57 9 rfl 5 Tryd.underlying57 rfl w.heap.size 0 64 64 key rfl rfl (u8s (List.replicate 64 0)) 65 (show _ from heap_alloc_new w (.cells (u8s (List.replicate 64 0)) 65)) (by rw [HMIN.out, u8s_size, Nat.zero_add]; exact HKS.out) ?_; rw [World.setRow_alloc_new, HCELLS.out])
    refine (HMX.out 92 _ _ (by decide) (Row.new w (u8s (blk key)) 65)).mono ?_; rintro e W1 ⟨rfl, C1⟩
    have R1 := (Row.new w (u8s (blk key)) 65).below C1 (by simp)
    have B1 := HB0.out.trans (((Below.refl w.heap.size w).alloc (Nat.le_refl _) (.cells (u8s (blk key)) 65)).trans (C1.mono (by simp)) |>.mono HB0.out.size)
    have hz1 := B1.size
    clear C1
    go_wp2_with fail
    refine (HMX.out 54 _ _ (by decide) R1).mono ?_; rintro e W2 ⟨rfl, C2⟩
    have B2 := B1.trans (C2.mono hz1)
    have hz2 := B2.size
    clear C2 B1 R1
    go_wp2_with fail
    refine (HS.out (mix key 54 ++ msg) W2 (by have := HS2.out; omega) B2).mono ?_; rintro e W3 ⟨rfl, C3⟩
    have B3 := B2.trans (C3.mono hz2)
    have hz3 := B3.size
    clear C3 B2
    go_wp2_with fail
    refine (HS.out (mix key 92 ++ dig (mix key 54 ++ msg)) W3 (by have := HS3.out; omega) B3).mono ?_; rintro e W4 ⟨rfl, C4⟩
    have B4 := B3.trans (C4.mono hz3)
    clear C4 B3
    go_wp2
    go_ret
    exact ⟨rfl, B4⟩
end Go.Proofs.YtkhcinnpfpkhnaaDoor.Mac
