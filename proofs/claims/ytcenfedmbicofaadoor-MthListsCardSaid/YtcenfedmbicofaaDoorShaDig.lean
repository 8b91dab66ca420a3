/- sha.Cut and the document's Cut: their walks; the hash of a text as a text. -/
import Derived.Test.YtcenfedmbicofaaDoorShaSum
import Derived.Test.YtcenfedmbicofaaDoorShaRef
set_option linter.unusedVariables false
set_option linter.unusedSimpArgs false
namespace Go.Proofs.YtcenfedmbicofaaDoor.ShaDig
open Go.RowKit Go.Proofs.YtcenfedmbicofaaDoor.Base Go.Proofs.YtcenfedmbicofaaDoor.ShaPlain Go.Proofs.YtcenfedmbicofaaDoor.ShaRot Go.Proofs.YtcenfedmbicofaaDoor.Arr Go.Proofs.YtcenfedmbicofaaDoor.Mem Go.Proofs.YtcenfedmbicofaaDoor.Buf Go.Proofs.YtcenfedmbicofaaDoor.ShaTake Go.Proofs.YtcenfedmbicofaaDoor.ShaBlocks Go.Proofs.YtcenfedmbicofaaDoor.ShaKit Go.Proofs.YtcenfedmbicofaaDoor.ShaWrite Go.Proofs.YtcenfedmbicofaaDoor.ShaPut Go.Proofs.YtcenfedmbicofaaDoor.ShaNew Go.Proofs.YtcenfedmbicofaaDoor.ShaSum
open Go.Proofs.YtcenfedmbicofaaDoor.ShaBlock Go.Proofs.YtcenfedmbicofaaDoor.ShaRef

/-- The text that some bytes are. -/
def txt (bs : List Nat) : ByteArray := strOfNums (bs.map fun x : Nat => (x : Int))
theorem nbN_txt {bs : List Nat} (h : ∀ x ∈ bs, x < 256) : nbN (txt bs) = bs := Buf.nbN_nums bs h
theorem txt_size (bs : List Nat) : (txt bs).size = bs.length := by rw [txt, son_size, List.length_map]
theorem txt_nbN (s : ByteArray) : txt (nbN s) = s := nbN_inj (nbN_txt fun _ h => nbN_byte h)
/-- The standard's constants. -/
def K0 : List Nat := [1116352408, 1899447441, 3049323471, 3921009573, 961987163, 1508970993, 2453635748, 2870763221, 3624381080, 310598401, 607225278, 1426881987, 1925078388, 2162078206, 2614888103, 3248222580, 3835390401, 4022224774, 264347078, 604807628, 770255983, 1249150122, 1555081692, 1996064986, 2554220882, 2821834349, 2952996808, 3210313671, 3336571891, 3584528711, 113926993, 338241895, 666307205, 773529912, 1294757372, 1396182291, 1695183700, 1986661051, 2177026350, 2456956037, 2730485921, 2820302411, 3259730800, 3345764771, 3516065817, 3600352804, 4094571909, 275423344, 430227734, 506948616, 659060556, 883997877, 958139571, 1322822218, 1537002063, 1747873779, 1955562222, 2024104815, 2227730452, 2361852424, 2428436474, 2756734187, 3204031479, 3329325298]
def I0 : St := ⟨1779033703, 3144134277, 1013904242, 2773480762, 1359893119, 2600822924, 528734635, 1541459225⟩
theorem K0_small : Small K0 := by unfold Small; decide
theorem I0_ok : I0.Ok := by unfold St.Ok; decide
/-- The hash of a text. -/
def dig (x : ByteArray) : ByteArray := txt (digest K0 I0 (nbN x))
theorem dig_nb (x : ByteArray) : nbN (dig x) = digest K0 I0 (nbN x) := nbN_txt (digest_byte _ _ _)
theorem dig_size (x : ByteArray) : (dig x).size = 32 := by rw [← nbN_length, dig_nb, digest_length]
/-- How many bytes a hash is cut to. -/
def wid (w : Int) : Nat := if w < 1 ∨ 32 < w then 32 else w.toNat
theorem wid_le (w : Int) : 1 ≤ wid w ∧ wid w ≤ 32 := by unfold wid; split <;> omega
def cut (w : Int) (x : ByteArray) : ByteArray := (dig x).extract 0 (wid w)
theorem cut_size (w : Int) (x : ByteArray) : (cut w x).size = wid w := by
  have := wid_le w
  rw [cut, ByteArray.size_extract, dig_size]; omega
/-- A function that answers a text, in new memory or none. -/
def Gives (s : ByteArray) (w : World) (e : Ending) (w' : World) : Prop := e = .returned (.string s) ∧ Below w.heap.size w w'
theorem gives_dig {x : ByteArray} {w : World} {e : Ending} {w' : World} (h : Says (digest K0 I0 (nbN x)) w e w') : e = .returned (.string (dig x)) ∧ Below w.heap.size w w' := by
  obtain ⟨p, h1, h2, h3⟩ := h
  have : p = dig x := nbN_inj (by rw [h2, dig_nb])
  rw [← this]
  exact ⟨h1, h3⟩
/-- The program's tables lie in memory. -/
def Tab (w : World) : Prop := Table K0 w ∧ Begin I0 w
theorem Tab.grown {w wx : World} (h : Tab w) {row : Option Nat} (hg : Grew w wx row) (h1 : some 3 ≠ row) (h2 : some 2 ≠ row) : Tab wx := ⟨h.1.grown hg h1, h.2.grown hg h2⟩
theorem Tab.below {w wx : World} (h : Tab w) (hb : Below w.heap.size w wx) : Tab wx := h.grown (Grew.of_below hb none) (by simp) (by simp)
/-- What was there before some block still stands. -/
theorem Tab.under {w wx : World} (h : Tab w) {B : Nat} (hB : w.heap.size ≤ B) (hb : Below B w wx) : Tab wx := h.below (hb.mono hB)
theorem Tab.lt {w : World} (h : Tab w) : 3 < w.heap.size ∧ 2 < w.heap.size := ⟨h.1.lt, h.2.lt⟩
theorem tab_of {w : World} (h1 : ∀ i : Nat, i < 8 → w.cell? ⟨2, i, none⟩ = some (.int .u32 ((I0.list.map fun x : Nat => (x : Int)).getD i 0))) (h2 : ∀ i : Nat, i < 64 → w.cell? ⟨3, i, none⟩ = some (.int .u32 ((K0.map fun x : Nat => (x : Int)).getD i 0))) : Tab w := by
  have hd : ∀ (l : List Nat) (i : Nat), (l.map fun x : Nat => (x : Int)).getD i 0 = ((l.getD i 0 : Nat) : Int) := by
    intro l i
    rw [List.getD_eq_getElem?_getD, List.getD_eq_getElem?_getD, List.getElem?_map]
    cases l[i]? <;> rfl
  exact ⟨fun i hi => (h2 i hi).trans (by rw [hd]), fun i hi => (h1 i hi).trans (by rw [hd])⟩
theorem shaSum_calls (x : ByteArray) (hx : x.size ≤ 900000000000000) (w : World) (hT : Tab w) : Calls Tryd.prog 65 #[.string x] w (Gives (dig x) w) :=
  (sum_calls K0 K0_small I0 I0_ok x hx w hT.1 hT.2).mono fun _ _ h => gives_dig h
set_option maxHeartbeats 1000000 in
theorem shaCut_calls (x : ByteArray) (hx : x.size ≤ 900000000000000) (k : Int) (w : World) (hT : Tab w) : Calls Tryd.prog 50 #[.string x, .int .i64 k] w (Gives (cut k x) w) := by
  have HS := Lib.hid (shaSum_calls x hx w hT)
  have hds := dig_size x
  by_cases h1 : k < 1
  · have HC : Hid (cut k x = (dig x).extract 0 32) := Lib.hid (by rw [cut, wid, if_pos (.inl h1)])
    have hsl := slice_h (P := Tryd.prog) (dig x) 9 Tryd.underlying9 32 (by omega)
    generalize dig x = dx at *
    clear hT hx
    go_enter Tryd.func50, Tryd.ntmps50
    go_wp2_with fail
    refine HS.out.mono ?_; rintro e w1 ⟨rfl, hb⟩
    go_wp2
    go_ret
    exact ⟨by rw [HC.out]; rfl, hb⟩
  · by_cases h2 : 32 < k
    · have HC : Hid (cut k x = (dig x).extract 0 32) := Lib.hid (by rw [cut, wid, if_pos (.inr h2)])
      have hsl := slice_h (P := Tryd.prog) (dig x) 9 Tryd.underlying9 32 (by omega)
      generalize dig x = dx at *
      clear hT hx
      go_enter Tryd.func50, Tryd.ntmps50
      go_wp2_with fail
      refine HS.out.mono ?_; rintro e w1 ⟨rfl, hb⟩
      go_wp2
      go_ret
      exact ⟨by rw [HC.out]; rfl, hb⟩
    · obtain ⟨n, rfl⟩ := Int.eq_ofNat_of_zero_le (show 0 ≤ k by omega)
      have HC : Hid (cut (n : Int) x = (dig x).extract 0 n) := Lib.hid (by rw [cut, wid, if_neg (by omega), Int.toNat_natCast])
      have hsl := slice_h (P := Tryd.prog) (dig x) 9 Tryd.underlying9 n (by omega)
      generalize dig x = dx at *
      clear hT hx
      go_enter Tryd.func50, Tryd.ntmps50
      go_wp2_with fail
      refine HS.out.mono ?_; rintro e w1 ⟨rfl, hb⟩
      go_wp2
      go_ret
      exact ⟨by rw [HC.out]; rfl, hb⟩
/-- The document's tables lie in memory. -/
def RTab (w : World) : Prop := RTable K0 w ∧ RBegin I0 w
theorem RTab.grown {w wx : World} (h : RTab w) {row : Option Nat} (hg : Grew w wx row) (h1 : some 1 ≠ row) (h2 : some 0 ≠ row) : RTab wx := ⟨h.1.grown hg h1, h.2.grown hg h2⟩
theorem RTab.below {w wx : World} (h : RTab w) (hb : Below w.heap.size w wx) : RTab wx := h.grown (Grew.of_below hb none) (by simp) (by simp)
theorem RTab.under {w wx : World} (h : RTab w) {B : Nat} (hB : w.heap.size ≤ B) (hb : Below B w wx) : RTab wx := h.below (hb.mono hB)
theorem RTab.lt {w : World} (h : RTab w) : 1 < w.heap.size ∧ 0 < w.heap.size := ⟨h.1.lt, h.2.lt⟩
theorem rtab_of {w : World} (h1 : ∀ i : Nat, i < 8 → w.cell? ⟨0, i, none⟩ = some (.int .u32 ((I0.list.map fun x : Nat => (x : Int)).getD i 0))) (h2 : ∀ i : Nat, i < 64 → w.cell? ⟨1, i, none⟩ = some (.int .u32 ((K0.map fun x : Nat => (x : Int)).getD i 0))) : RTab w := by
  have hd : ∀ (l : List Nat) (i : Nat), (l.map fun x : Nat => (x : Int)).getD i 0 = ((l.getD i 0 : Nat) : Int) := by
    intro l i
    rw [List.getD_eq_getElem?_getD, List.getD_eq_getElem?_getD, List.getElem?_map]
    cases l[i]? <;> rfl
  exact ⟨fun i hi => (h2 i hi).trans (by rw [hd]), fun i hi => (h1 i hi).trans (by rw [hd])⟩
theorem refSum_calls (x : ByteArray) (hx : x.size ≤ 140737488355200) (w : World) (hT : RTab w) : Calls Tryd.prog 61 #[.string x] w (Gives (dig x) w) :=
  (rsum_calls K0 K0_small I0 I0_ok x hx w hT.1 hT.2).mono fun _ _ h => gives_dig h
theorem refWidth_calls (k : Int) (w : World) : Calls Tryd.prog 62 #[.int .i64 k] w (fun e w' => e = .returned (.int .i64 (wid k : Int)) ∧ w = w') := by
  by_cases h1 : k < 1
  · have HC : Hid (wid k = 32) := Lib.hid (by rw [wid, if_pos (.inl h1)])
    go_enter Tryd.func62, Tryd.ntmps62
    go_wp2
    go_ret
    exact ⟨by rw [HC.out]; rfl, rfl⟩
  · by_cases h2 : 32 < k
    · have HC : Hid (wid k = 32) := Lib.hid (by rw [wid, if_pos (.inr h2)])
      go_enter Tryd.func62, Tryd.ntmps62
      go_wp2
      go_ret
      exact ⟨by rw [HC.out]; rfl, rfl⟩
    · have HC : Hid ((wid k : Int) = k) := Lib.hid (by rw [wid, if_neg (by omega)]; omega)
      go_enter Tryd.func62, Tryd.ntmps62
      go_wp2
      go_ret
      exact ⟨by rw [HC.out]; rfl, rfl⟩
set_option maxHeartbeats 1000000 in
theorem refCut_calls (x : ByteArray) (hx : x.size ≤ 140737488355200) (k : Int) (w : World) (hT : RTab w) : Calls Tryd.prog 46 #[.string x, .int .i64 k] w (Gives (cut k x) w) := by
  have HS := Lib.hid (refSum_calls x hx w hT)
  have HW := Lib.hid (fun w => refWidth_calls k w)
  have hsl := slice_h (P := Tryd.prog) (dig x) 9 Tryd.underlying9 (wid k) (by rw [dig_size]; exact (wid_le k).2)
  have HC : Hid (cut k x = (dig x).extract 0 (wid k)) := Lib.hid rfl
  generalize dig x = dx at *
  generalize wid k = n at *
  clear hT hx
  go_enter Tryd.func46, Tryd.ntmps46
  go_wp2_with fail
  refine HS.out.mono ?_; rintro e w1 ⟨rfl, hb⟩
  go_wp2_with fail
  refine (HW.out _).mono ?_; rintro e w2 ⟨rfl, rfl⟩
  go_wp2
  go_ret
  exact ⟨by rw [HC.out]; rfl, hb⟩
end Go.Proofs.YtcenfedmbicofaaDoor.ShaDig
