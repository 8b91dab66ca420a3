/- (*sha.state).take: its walk: one block more. -/
import Derived.Test.YtcenfedmbicofaaDoorShaWords
set_option linter.unusedVariables false
set_option linter.unusedSimpArgs false
namespace Go.Proofs.YtcenfedmbicofaaDoor.ShaTake
open Go.RowKit Go.Proofs.YtcenfedmbicofaaDoor.Base Go.Proofs.YtcenfedmbicofaaDoor.ShaPlain Go.Proofs.YtcenfedmbicofaaDoor.ShaRot Go.Proofs.YtcenfedmbicofaaDoor.Arr Go.Proofs.YtcenfedmbicofaaDoor.Mem Go.Proofs.YtcenfedmbicofaaDoor.ShaWords

/-- Eight words as an array. -/
def arr8 (s : St) : Array Value := #[.int .u32 (s.a : Int), .int .u32 (s.b : Int), .int .u32 (s.c : Int), .int .u32 (s.d : Int), .int .u32 (s.e : Int), .int .u32 (s.f : Int), .int .u32 (s.g : Int), .int .u32 (s.h : Int)]
/-- The cells of a Hash: its state, its rest, its number. -/
def hw (l r : List Nat) (n : Int) : Array Value := ((l.map fun x : Nat => Value.int .u32 (x : Int)) ++ ((r.map fun x : Nat => Value.int .u8 (x : Int)) ++ [Value.int .i64 n])).toArray
def hcells (s : St) (r : List Nat) (n : Int) : Array Value := hw s.list r n
/-- The first i words have been added. -/
def mix (i : Nat) (s v : St) : List Nat := (s.plus v).list.take i ++ s.list.drop i
theorem lt8 {i : Nat} (h : i < 8) : i = 0 ∨ i = 1 ∨ i = 2 ∨ i = 3 ∨ i = 4 ∨ i = 5 ∨ i = 6 ∨ i = 7 := by omega
theorem mix_get (i : Nat) (s v : St) (r : List Nat) (n : Int) (h : i < 8) : (hw (mix i s v) r n)[i]? = some (.int .u32 (s.list.getD i 0 : Int)) := by
  rcases lt8 h with rfl | rfl | rfl | rfl | rfl | rfl | rfl | rfl <;> rfl
theorem mix_set (i : Nat) (s v : St) (r : List Nat) (n : Int) (h : i < 8) : (hw (mix i s v) r n).setIfInBounds i (.int .u32 (add (s.list.getD i 0) (v.list.getD i 0) : Nat)) = hw (mix (i + 1) s v) r n := by
  unfold hw
  rw [List.setIfInBounds_toArray]
  rcases lt8 h with rfl | rfl | rfl | rfl | rfl | rfl | rfl | rfl <;> rfl
theorem arr8_get (i : Nat) (v : St) (h : i < 8) : (arr8 v)[i]? = some (.int .u32 (v.list.getD i 0 : Int)) := by
  rcases lt8 h with rfl | rfl | rfl | rfl | rfl | rfl | rfl | rfl <;> rfl
theorem hw_size (l r : List Nat) (n : Int) : (hw l r n).size = l.length + (r.length + 1) := by simp [hw]
theorem mix_length (i : Nat) (s v : St) (h : i < 8) : (mix i s v).length = 8 := by
  rcases lt8 h with rfl | rfl | rfl | rfl | rfl | rfl | rfl | rfl <;> rfl
/-- A callee that only reads, met behind some draws. -/
theorem quiet2 {P : Program} {f : FuncId} {args : Array Value} {w : World} {q n : Nat} {v : Value}
    (h : Calls P f args (w.drewN (q + n)) fun e w' => e = .returned v ∧ w' = w.drewN (q + n)) : Calls P f args (w.drewN (q + n)) fun e w'' => e = .returned v ∧ ∃ m, w'' = w.drewN (q + m) :=
  h.mono fun _ _ ⟨he, hm⟩ => ⟨he, n, hm⟩
theorem arr8_size (s : St) : (arr8 s).size = 8 := rfl
theorem arr8_one (s : St) : (arr8 s).all (·.oneCell') = true := by simp [arr8, Value.oneCell']
theorem info8 : (Tryd.prog.info? 107).map (fun i => (i.zero, i.size)) = some (some (.agg (Array.replicate 8 (.int .u32 0))), 8) := by kernel_rfl
/-- The table of the rounds lies in memory. -/
def Table (K : List Nat) (w : World) : Prop := ∀ i : Nat, i < 64 → w.cell? ⟨3, i, none⟩ = some (.int .u32 (K.getD i 0 : Int))
theorem Table.lt {K : List Nat} {w : World} (h : Table K w) : 3 < w.heap.size := World.block_lt_of_cell? w _ (h 0 (by decide))
theorem Table.grown {K : List Nat} {w wx : World} (h : Table K w) {row : Option Nat} (hg : Grew w wx row) (hne : some 3 ≠ row) : Table K wx :=
  fun i hi => (hg.cell ⟨3, i, none⟩ h.lt hne).trans (h i hi)
theorem hcells_low (s : St) (r : List Nat) (n : Int) (j : Nat) (v : Value) (h : (arr8 s)[j]? = some v) : (hcells s r n)[j]? = some v := by
  have hj : j < 8 := by
    by_cases hj : j < 8
    · exact hj
    · rw [Array.getElem?_eq_none (by show 8 ≤ j; omega)] at h; exact absurd h (by simp)
  rw [arr8_get j s hj] at h
  rw [← h]
  have := mix_get j s s r n hj
  rcases lt8 hj with rfl | rfl | rfl | rfl | rfl | rfl | rfl | rfl <;> rfl
theorem andw (a b : Nat) (ha : a < 4294967296) (hb : b < 4294967296) : Go.bits .and .u32 (a : Int) (b : Int) = ((a &&& b : Nat) : Int) := u32_and_nat a b ha hb
theorem and_lt {a b : Nat} (ha : a < 4294967296) : a &&& b < 4294967296 := Nat.lt_of_le_of_lt Nat.and_le_left ha
theorem notw (a : Nat) (ha : a < 4294967296) : Go.bits .xor .u32 (if IntKind.u32.signed = true then -1 else IntKind.u32.max) (a : Int) = ((4294967295 ^^^ a : Nat) : Int) := by
  have e : (if IntKind.u32.signed = true then -1 else IntKind.u32.max) = ((4294967295 : Nat) : Int) := by decide
  rw [e, u32_xor_nat _ _ (by decide) ha]
theorem addw (a b : Nat) : ((a : Int) + (b : Int)) % 4294967296 = ((add a b : Nat) : Int) := by unfold add; omega
def Took (K : List Nat) (s : St) (blk : List Nat) (b : Nat) (r : List Nat) (n : Int) (w : World) (e : Ending) (w' : World) : Prop :=
  e = .returned (.tuple #[]) ∧ Grew w w' (some b) ∧ Row w' b (hcells (comp K s blk) r n) 110
set_option maxHeartbeats 4000000 in
set_option maxRecDepth 1000000 in
theorem take_calls (K : List Nat) (hK : Small K) (s : St) (hs : s.Ok) (x : ByteArray) (hx : x.size = 64) (b : Nat) (hbK : b ≠ 3) (r : List Nat) (hr : r.length = 64) (n : Int) (w : World)
    (hT : Table K w) (hb : Row w b (hcells s r n) 110) :
    Calls Tryd.prog 83 #[.pointer (some ⟨b, 0, none⟩), .string x] w (Took K s (nbN x) b r n w) := by
  obtain ⟨hz, hi⟩ := zero_of_info info
  obtain ⟨hz8, hi8⟩ := zero_of_info info8
  have HI := Lib.hid hi
  have HI8 := Lib.hid hi8
  have HZ := Lib.hid hz
  have HZ8 := Lib.hid hz8
  have HWD := Lib.hid (fun w => words_calls x hx w)
  have hwl := words_length (nbN x)
  have hws := words_small (nbN x) (fun _ h => nbN_byte h)
  have HC : Hid (comp K s (nbN x) = s.plus (rnds K (words (nbN x)) s 64)) := rfl
  generalize words (nbN x) = wd at *
  generalize hfi : comp K s (nbN x) = fin at *
  have HFI := Lib.hid hfi
  clear hfi
  have HS := Lib.hid hs
  have HWS := Lib.hid hws
  have HHB := Lib.hid hb
  have HHT := Lib.hid hT
  clear hi hi8 hz hz8 hs hws hwl hb hT
  go_enter Tryd.func83, Tryd.ntmps83
  go_wp2_with fail
  refine (HWD.out _).mono ?_; rintro e w1 ⟨rfl, hg1⟩
  have hsz := arr_size wd
  have hz := HZ.out
  have hz8 := HZ8.out
  have hb1 := HHB.out.kept hg1 (by simp)
  have hlo : ∀ (j : Nat) v, (arr8 s)[j]? = some v → (w1.alloc (.cells (arr wd) 104)).cell? ⟨b, 0 + j, none⟩ = some v := fun j v hv => by
    rw [Nat.zero_add, (hb1.alloc _).cell j]; exact hcells_low s r n j v hv
  have HLO := Lib.hid hlo
  clear hlo
  go_wp2_with (first
    | (refine wpList_put_row rfl 104 _ _ rfl w1.heap.size rfl (arr wd) rfl 104 _ (heap_alloc_new w1 _) (by rw [hsz]; exact HI.out) (by rw [hsz]; simp) (arr_one _) ?_; rw [World.setRow_alloc_new])
    | (refine wpList_load_seg rfl 107 _ rfl b 0 rfl (arr8 s) _ HLO.out Tryd.underlying107 rfl HI8.out ?_)
    | (refine wpList_put_row rfl 107 _ _ rfl (w1.heap.size + 1) rfl (arr8 s) rfl 107 _ (heap_alloc2_new w1 _ _) HI8.out (by rw [arr8_size]; simp) (arr8_one _) ?_))
  have q4 : Row (((w1.alloc (.cells (arr wd) 104)).alloc (.cells (Array.replicate 8 (.int .u32 0)) 107)).setRow (w1.heap.size + 1) (arr8 s)) w1.heap.size (arr wd) 104 :=
    ((Row.new _ _ _).alloc _).putFar _ (by omega) _
  have q5 : Row (((w1.alloc (.cells (arr wd) 104)).alloc (.cells (Array.replicate 8 (.int .u32 0)) 107)).setRow (w1.heap.size + 1) (arr8 s)) (w1.heap.size + 1) (arr8 s) 107 := by
    have := (Row.new (w1.alloc (.cells (arr wd) 104)) (Array.replicate 8 (.int .u32 0)) 107).put (arr8 s)
    simpa using this
  have hle := hg1.size
  have qg : Grew w (((w1.alloc (.cells (arr wd) 104)).alloc (.cells (Array.replicate 8 (.int .u32 0)) 107)).setRow (w1.heap.size + 1) (arr8 s)) none := ((hg1.alloc _).alloc _).put _ (.inl (by omega)) _
  generalize hwz : ((w1.alloc (.cells (arr wd) 104)).alloc (.cells (Array.replicate 8 (.int .u32 0)) 107)).setRow (w1.heap.size + 1) (arr8 s) = wz at *
  generalize hg4 : w1.heap.size = g4 at *
  have hw45 : g4 ≠ g4 + 1 := by omega
  have hge5 : w.heap.size ≤ g4 + 1 := by omega
  generalize hg5 : g4 + 1 = g5 at *
  have H45 := Lib.hid hw45
  have HGE := Lib.hid hge5
  clear hz hz8 hwz hsz hb1 hg1 hg4 hg5 HLO hw45 hge5 HZ HZ8 HWD HI hle w1
  have HNB := Lib.hid (show b < w.heap.size from HHB.out.lt)
  have HB5 : Hid (b ≠ g5) := Lib.hid (by have := HNB.out; have := HGE.out; omega)
  go_loopw [17] (fun s17 wx => ∃ t : Nat, t ≤ 64 ∧ s17 = .int .i64 t ∧ Grew w wx none ∧ Row wx g4 (arr wd) 104 ∧ Row wx g5 (arr8 (rnds K wd s t)) 107) (fun s17 _ => 64 - (intOf s17).toNat)
  case atStart => exact ⟨0, by omega, rfl, qg, q4, q5⟩
  case round =>
    obtain ⟨t, ht, rfl, hg, h4, h5⟩ := hrel
    by_cases hlt : t < 64
    · have hlt' : (t : Int) < 64 := by omega
      have hok := rnds_ok HS.out K wd t
      have hrn : rnds K wd s (t + 1) = rnd (rnds K wd s t) (K.getD t 0) (wd.getD t 0) := rfl
      have kt := (HHT.out.grown hg (by simp)) t hlt
      have kw : wr.cell? ⟨g4, t, none⟩ = some (.int .u32 (wd.getD t 0 : Int)) := (h4.cell t).trans (arr_get _ _ hlt)
      have lk := hK.getD t
      have lw := HWS.out.getD t
      generalize K.getD t 0 = kk at *
      generalize wd.getD t 0 = ww at *
      generalize hrs : rnds K wd s (t + 1) = st' at *
      have HRS := Lib.hid hrs
      clear hrs
      generalize rnds K wd s t = st at *
      obtain ⟨a, b', c, d, e, f, g, h⟩ := st
      have c0 : wr.cell? ⟨g5, 0, none⟩ = some (.int .u32 (a : Int)) := (h5.cell 0).trans rfl
      have c1 : wr.cell? ⟨g5, 1, none⟩ = some (.int .u32 (b' : Int)) := (h5.cell 1).trans rfl
      have c2 : wr.cell? ⟨g5, 2, none⟩ = some (.int .u32 (c : Int)) := (h5.cell 2).trans rfl
      have c3 : wr.cell? ⟨g5, 3, none⟩ = some (.int .u32 (d : Int)) := (h5.cell 3).trans rfl
      have c4 : wr.cell? ⟨g5, 4, none⟩ = some (.int .u32 (e : Int)) := (h5.cell 4).trans rfl
      have c5 : wr.cell? ⟨g5, 5, none⟩ = some (.int .u32 (f : Int)) := (h5.cell 5).trans rfl
      have c6 : wr.cell? ⟨g5, 6, none⟩ = some (.int .u32 (g : Int)) := (h5.cell 6).trans rfl
      have c7 : wr.cell? ⟨g5, 7, none⟩ = some (.int .u32 (h : Int)) := (h5.cell 7).trans rfl
      have H1 : Hid (∀ m s', Grew w ((wr.drewN m).setRow g5 (arr8 s')) none ∧ Row ((wr.drewN m).setRow g5 (arr8 s')) g4 (arr wd) 104 ∧ Row ((wr.drewN m).setRow g5 (arr8 s')) g5 (arr8 s') 107) :=
        Lib.hid fun m s' => ⟨(hg.drewN m).put _ (.inl HGE.out) _, (h4.drewN m).putFar _ H45.out _, (h5.drewN m).put _⟩
      obtain ⟨la, lb, lc, ld, le, lf, lg, lh⟩ := hok
      simp only at la lb lc ld le lf lg lh
      have T6 : Hid (∀ W, Calls Tryd.prog 92 #[.int .u32 (e : Int), .int .i64 6] W (fun e' w' => e' = .returned (.int .u32 ((rot 6 e : Nat) : Int)) ∧ w' = W)) := Lib.hid fun W => turned_calls 6 e (by decide) (by decide) le W
      have T11 : Hid (∀ W, Calls Tryd.prog 92 #[.int .u32 (e : Int), .int .i64 11] W (fun e' w' => e' = .returned (.int .u32 ((rot 11 e : Nat) : Int)) ∧ w' = W)) := Lib.hid fun W => turned_calls 11 e (by decide) (by decide) le W
      have T25 : Hid (∀ W, Calls Tryd.prog 92 #[.int .u32 (e : Int), .int .i64 25] W (fun e' w' => e' = .returned (.int .u32 ((rot 25 e : Nat) : Int)) ∧ w' = W)) := Lib.hid fun W => turned_calls 25 e (by decide) (by decide) le W
      have T2 : Hid (∀ W, Calls Tryd.prog 92 #[.int .u32 (a : Int), .int .i64 2] W (fun e' w' => e' = .returned (.int .u32 ((rot 2 a : Nat) : Int)) ∧ w' = W)) := Lib.hid fun W => turned_calls 2 a (by decide) (by decide) la W
      have T13 : Hid (∀ W, Calls Tryd.prog 92 #[.int .u32 (a : Int), .int .i64 13] W (fun e' w' => e' = .returned (.int .u32 ((rot 13 a : Nat) : Int)) ∧ w' = W)) := Lib.hid fun W => turned_calls 13 a (by decide) (by decide) la W
      have T22 : Hid (∀ W, Calls Tryd.prog 92 #[.int .u32 (a : Int), .int .i64 22] W (fun e' w' => e' = .returned (.int .u32 ((rot 22 a : Nat) : Int)) ∧ w' = W)) := Lib.hid fun W => turned_calls 22 a (by decide) (by decide) la W
      have x1 := xorw (rot 6 e) (rot 11 e) (rot_lt 6 le) (rot_lt 11 le)
      have l1 : rot 6 e ^^^ rot 11 e < 4294967296 := xor_lt' (k := 32) (rot_lt 6 le) (rot_lt 11 le)
      have x2 := xorw (rot 6 e ^^^ rot 11 e) (rot 25 e) l1 (rot_lt 25 le)
      have l2 : rot 6 e ^^^ rot 11 e ^^^ rot 25 e < 4294967296 := xor_lt' (k := 32) l1 (rot_lt 25 le)
      have n1 := notw e le
      have ln : 4294967295 ^^^ e < 4294967296 := xor_lt' (k := 32) (by decide) le
      have a1 := andw e f le lf
      have a2 := andw (4294967295 ^^^ e) g ln lg
      have l3 : e &&& f < 4294967296 := and_lt le
      have l4 : (4294967295 ^^^ e) &&& g < 4294967296 := and_lt ln
      have x3 := xorw (e &&& f) ((4294967295 ^^^ e) &&& g) l3 l4
      have l5 : (e &&& f) ^^^ ((4294967295 ^^^ e) &&& g) < 4294967296 := xor_lt' (k := 32) l3 l4
      have x4 := xorw (rot 2 a) (rot 13 a) (rot_lt 2 la) (rot_lt 13 la)
      have l6 : rot 2 a ^^^ rot 13 a < 4294967296 := xor_lt' (k := 32) (rot_lt 2 la) (rot_lt 13 la)
      have x5 := xorw (rot 2 a ^^^ rot 13 a) (rot 22 a) l6 (rot_lt 22 la)
      have l7 : rot 2 a ^^^ rot 13 a ^^^ rot 22 a < 4294967296 := xor_lt' (k := 32) l6 (rot_lt 22 la)
      have a3 := andw a b' la lb
      have a4 := andw a c la lc
      have a5 := andw b' c lb lc
      have l8 : a &&& b' < 4294967296 := and_lt la
      have l9 : a &&& c < 4294967296 := and_lt la
      have l10 : b' &&& c < 4294967296 := and_lt lb
      have x6 := xorw (a &&& b') (a &&& c) l8 l9
      have l11 : (a &&& b') ^^^ (a &&& c) < 4294967296 := xor_lt' (k := 32) l8 l9
      have x7 := xorw ((a &&& b') ^^^ (a &&& c)) (b' &&& c) l11 l10
      have l12 : (a &&& b') ^^^ (a &&& c) ^^^ (b' &&& c) < 4294967296 := xor_lt' (k := 32) l11 l10
      have hone : one ⟨a, b', c, d, e, f, g, h⟩ kk ww = add (add (add (add h (rot 6 e ^^^ rot 11 e ^^^ rot 25 e)) ((e &&& f) ^^^ ((4294967295 ^^^ e) &&& g))) kk) ww := rfl
      have htwo : two ⟨a, b', c, d, e, f, g, h⟩ = add (rot 2 a ^^^ rot 13 a ^^^ rot 22 a) ((a &&& b') ^^^ (a &&& c) ^^^ (b' &&& c)) := rfl
      have hst : st' = ⟨add (one ⟨a, b', c, d, e, f, g, h⟩ kk ww) (two ⟨a, b', c, d, e, f, g, h⟩), a, b', c, add d (one ⟨a, b', c, d, e, f, g, h⟩ kk ww), e, f, g⟩ := hrn
      generalize one ⟨a, b', c, d, e, f, g, h⟩ kk ww = on at *
      generalize two ⟨a, b', c, d, e, f, g, h⟩ = tw at *
      generalize rot 6 e = r6 at *
      generalize rot 11 e = r11 at *
      generalize rot 25 e = r25 at *
      generalize rot 2 a = r2 at *
      generalize rot 13 a = r13 at *
      generalize rot 22 a = r22 at *
      generalize (4294967295 ^^^ e) = ne at *
      generalize ne &&& g = neg at *
      generalize e &&& f = ef at *
      generalize ef ^^^ neg = vch at *
      generalize a &&& b' = ab at *
      generalize a &&& c = ac at *
      generalize b' &&& c = bc at *
      generalize ab ^^^ ac = abc at *
      generalize abc ^^^ bc = vmaj at *
      generalize r6 ^^^ r11 = z1 at *
      generalize z1 ^^^ r25 = v1 at *
      generalize r2 ^^^ r13 = z2 at *
      generalize z2 ^^^ r22 = v0 at *
      have o1 := addw h v1
      have o2 := addw (add h v1) vch
      have o3 := addw (add (add h v1) vch) kk
      have o4 := addw (add (add (add h v1) vch) kk) ww
      rw [← hone] at o4
      have o5 := addw v0 vmaj
      rw [← htwo] at o5
      have o6 := addw on tw
      have o7 := addw d on
      generalize add (add (add h v1) vch) kk = m3 at *
      generalize add (add h v1) vch = m2 at *
      generalize add h v1 = m1 at *
      have lon : on < 4294967296 := by rw [hone]; exact add_lt _ _
      have ltw : tw < 4294967296 := by rw [htwo]; exact add_lt _ _
      generalize add on tw = na at *
      generalize add d on = nd at *
      have HST := Lib.hid hst
      clear hst
      clear hone htwo hrn l1 l3 l4 l6 l8 l9 l10 l11 l2 l5 l7 l12 ln la lb lc ld le lf lg lh lk lw lon ltw
      go_wp2_with fail
      go_quiet (fail)
      go_wp2_with fail
      go_quiet (first | (with_reducible exact quiet2 (T6.out _)) | (with_reducible exact quiet2 (T11.out _)) | (with_reducible exact quiet2 (T25.out _)))
      go_wp2_with fail
      go_quiet (first | (with_reducible exact quiet2 (T2.out _)) | (with_reducible exact quiet2 (T13.out _)) | (with_reducible exact quiet2 (T22.out _)))
      go_wp2_with (refine wpList_put_row rfl 107 _ _ rfl g5 rfl (arr8 ⟨na, a, b', c, nd, e, f, g⟩) rfl 107 (arr8 ⟨a, b', c, d, e, f, g, h⟩) (show _ from h5) HI8.out (by rw [arr8_size, arr8_size]) (arr8_one _) ?_)
      go_roundw
      case rel => exact ⟨t + 1, by omega, by go_num, by rw [HRS.out, HST.out]; exact H1.out _ _⟩
      case measure => simp [intOf]; omega
    · have ht64 : t = 64 := by omega
      rw [ht64] at h5
      have hlt' : ¬ (t : Int) < 64 := by omega
      have hbw := HHB.out.kept hg (by simp)
      have hgb : Grew w wr (some b) := ⟨hg.os, hg.tape, hg.output, hg.size, fun k hk _ => hg.block k hk (by simp)⟩
      have hv := rnds_ok HS.out K wd 64
      have hm0 : hcells s r n = hw (mix 0 s (rnds K wd s 64)) r n := rfl
      rw [hm0] at hbw
      generalize rnds K wd s 64 = v at *
      have HFIN : Hid (hcells fin r n = hw (mix 8 s v) r n) := Lib.hid (by rw [HC.out]; rfl)
      clear ht64 hm0 hlt hv q4 q5 qg hg h4 HC
      go_wp2
      go_loopw [99] (fun s99 wx => ∃ i : Nat, i ≤ 8 ∧ s99 = .int .i64 i ∧ Grew w wx (some b) ∧ Row wx b (hw (mix i s v) r n) 110 ∧ Row wx g5 (arr8 v) 107) (fun s99 _ => 8 - (intOf s99).toNat)
      case atStart => exact ⟨0, by omega, rfl, hgb, hbw, h5⟩
      case round =>
        obtain ⟨i, hi, rfl, hg, hb, h5⟩ := hrel
        by_cases hlt : i < 8
        · have hlt' : (i : Int) < 8 := by omega
          have c1 := (hb.cell i).trans (mix_get i s v r n hlt)
          have c2 := (h5.cell i).trans (arr8_get i v hlt)
          have f1 := hb.free i
          have o1 := addw (s.list.getD i 0) (v.list.getD i 0)
          have hst := mix_set i s v r n hlt
          generalize s.list.getD i 0 = x1 at *
          generalize v.list.getD i 0 = x2 at *
          generalize add x1 x2 = x3 at *
          have H1 : Hid (∀ m, Grew w ((wr.drewN m).setCell ⟨b, i, none⟩ (.int .u32 (x3 : Int))) (some b) ∧ Row ((wr.drewN m).setCell ⟨b, i, none⟩ (.int .u32 (x3 : Int))) b (hw (mix (i + 1) s v) r n) 110 ∧ Row ((wr.drewN m).setCell ⟨b, i, none⟩ (.int .u32 (x3 : Int))) g5 (arr8 v) 107) :=
            Lib.hid fun m => ⟨(hg.drewN m).set _ (.inr rfl) _, by rw [← hst]; exact (hb.drewN m).set _ _, (h5.drewN m).far _ (fun e => HB5.out e.symm) _⟩
          clear hst hg hb h5
          go_wp2_with fail
          go_region
          go_wp2
          go_roundw
          case rel => exact ⟨i + 1, by omega, by go_num, H1.out _⟩
          case measure => simp [intOf]; omega
        · have hi8 : i = 8 := by omega
          rw [hi8, ← HFIN.out] at hb
          have hlt' : ¬ (i : Int) < 8 := by omega
          go_wp2
          (try simp only [Exit.inBlock, Exit.then])
          refine bodyPost_ret (results_none rfl _ _ _) rfl ⟨rfl, hg, by rw [HFI.out]; exact hb⟩
end Go.Proofs.YtcenfedmbicofaaDoor.ShaTake
