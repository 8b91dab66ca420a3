/- The document's block: its walk: one block more. -/
import Derived.Test.YtcenfedmbicofaaDoorShaTake
import Derived.Test.YtcenfedmbicofaaDoorShaSched
set_option linter.unusedVariables false
set_option linter.unusedSimpArgs false
namespace Go.Proofs.YtcenfedmbicofaaDoor.ShaBlock
open Go.RowKit Go.Proofs.YtcenfedmbicofaaDoor.Base Go.Proofs.YtcenfedmbicofaaDoor.ShaPlain Go.Proofs.YtcenfedmbicofaaDoor.ShaRot Go.Proofs.YtcenfedmbicofaaDoor.Arr Go.Proofs.YtcenfedmbicofaaDoor.Mem Go.Proofs.YtcenfedmbicofaaDoor.ShaWords Go.Proofs.YtcenfedmbicofaaDoor.ShaTake Go.Proofs.YtcenfedmbicofaaDoor.ShaSched

def wArr (l : List Nat) : Array Value := (l.map fun x : Nat => Value.int .u32 (x : Int)).toArray
theorem mix_get2 (i : Nat) (s v : St) (h : i < 8) : (wArr (mix i s v))[i]? = some (.int .u32 (s.list.getD i 0 : Int)) := by
  rcases lt8 h with rfl | rfl | rfl | rfl | rfl | rfl | rfl | rfl <;> rfl
theorem mix_set2 (i : Nat) (s v : St) (h : i < 8) : (wArr (mix i s v)).setIfInBounds i (.int .u32 (add (s.list.getD i 0) (v.list.getD i 0) : Nat)) = wArr (mix (i + 1) s v) := by
  unfold wArr
  rw [List.setIfInBounds_toArray]
  rcases lt8 h with rfl | rfl | rfl | rfl | rfl | rfl | rfl | rfl <;> rfl
/-- The document's table of the rounds lies in memory. -/
def RTable (K : List Nat) (w : World) : Prop := ∀ i : Nat, i < 64 → w.cell? ⟨1, i, none⟩ = some (.int .u32 (K.getD i 0 : Int))
theorem RTable.lt {K : List Nat} {w : World} (h : RTable K w) : 1 < w.heap.size := World.block_lt_of_cell? w _ (h 0 (by decide))
theorem RTable.grown {K : List Nat} {w wx : World} (h : RTable K w) {row : Option Nat} (hg : Grew w wx row) (hne : some 1 ≠ row) : RTable K wx :=
  fun i hi => (hg.cell ⟨1, i, none⟩ h.lt hne).trans (h i hi)
theorem rinfo8 : (Tryd.prog.info? 97).map (fun i => (i.zero, i.size)) = some (some (.agg (Array.replicate 8 (.int .u32 0))), 8) := by kernel_rfl
def Blocked (K : List Nat) (s : St) (blk : List Nat) (w : World) (e : Ending) (w' : World) : Prop := e = .returned (.agg (arr8 (comp K s blk))) ∧ Grew w w' none
set_option maxHeartbeats 4000000 in
set_option maxRecDepth 1000000 in
theorem block_calls (K : List Nat) (hK : Small K) (s : St) (hs : s.Ok) (g o p cap : Nat) (bs : List Nat) (hB : ∀ x ∈ bs, x < 256) (hlen : bs.length ≤ 1000000000000000000) (hp : p + 64 ≤ bs.length) (w : World)
    (hT : RTable K w) (hbs : Bytes w g o bs) :
    Calls Tryd.prog 74 #[.agg (arr8 s), .slice (some ⟨g, o, none⟩) bs.length cap, .int .i64 (p : Int)] w (Blocked K s ((bs.drop p).take 64) w) := by
  obtain ⟨hz, hi⟩ := zero_of_info info
  obtain ⟨hz8, hi8⟩ := zero_of_info rinfo8
  have HI := Lib.hid hi
  have HI8 := Lib.hid hi8
  have HZ := Lib.hid hz
  have HZ8 := Lib.hid hz8
  have HWD : Hid (∀ wx, Grew w wx none → Calls Tryd.prog 80 #[.slice (some ⟨g, o, none⟩) bs.length cap, .int .i64 (p : Int)] wx (Words (words ((bs.drop p).take 64)) wx)) :=
    Lib.hid fun wx hg => sched_calls g o p cap bs hB hlen hp wx (hbs.grown hg)
  have hblk : ∀ x ∈ (bs.drop p).take 64, x < 256 := fun x hx => hB x (List.mem_of_mem_drop (List.mem_of_mem_take hx))
  have hwl := words_length ((bs.drop p).take 64)
  have hws := words_small ((bs.drop p).take 64) hblk
  have HC : Hid (comp K s ((bs.drop p).take 64) = s.plus (rnds K (words ((bs.drop p).take 64)) s 64)) := rfl
  generalize words ((bs.drop p).take 64) = wd at *
  generalize hfi : comp K s ((bs.drop p).take 64) = fin at *
  have HFI := Lib.hid hfi
  clear hfi
  have HS := Lib.hid hs
  have HWS := Lib.hid hws
  have HHT := Lib.hid hT
  clear hi hi8 hz hs hws hwl hblk hT hbs hB
  go_enter Tryd.func74, Tryd.ntmps74
  go_wp2_with fail
  have hle0 : w.heap.size ≤ w.heap.size := Nat.le_refl _
  have p3 : Row ((w.alloc (.cells (arr8 s) 97)).alloc (.cells (Array.replicate 8 (.int .u32 0)) 97)) w.heap.size (arr8 s) 97 := (Row.new _ _ _).alloc _
  have p6 : Row ((w.alloc (.cells (arr8 s) 97)).alloc (.cells (Array.replicate 8 (.int .u32 0)) 97)) (w.heap.size + 1) (Array.replicate 8 (.int .u32 0)) 97 := by
    have := Row.new (w.alloc (.cells (arr8 s) 97)) (Array.replicate 8 (.int .u32 0)) 97
    simpa using this
  have pg : Grew w ((w.alloc (.cells (arr8 s) 97)).alloc (.cells (Array.replicate 8 (.int .u32 0)) 97)) none := ((Grew.refl w none).alloc _).alloc _
  generalize (w.alloc (.cells (arr8 s) 97)).alloc (.cells (Array.replicate 8 (.int .u32 0)) 97) = wa at *
  have hg36 : w.heap.size ≠ w.heap.size + 1 := by omega
  have hge6 : w.heap.size ≤ w.heap.size + 1 := by omega
  generalize w.heap.size + 1 = g6 at *
  have hge3 : w.heap.size ≤ w.heap.size := Nat.le_refl _
  generalize hg3 : w.heap.size = g3 at p3 hg36 hge3 ⊢
  have l3 := p3.lt
  have l6 := p6.lt
  refine (HWD.out _ pg).mono ?_; rintro e w1 ⟨rfl, hg1⟩
  replace p3 := p3.kept hg1 (by simp)
  replace p6 := p6.kept hg1 (by simp)
  replace pg := pg.andThen hg1 (by simp)
  have m3 := p3.lt
  have m6 := p6.lt
  have hsz := arr_size wd
  have hz := HZ.out
  clear hg1 l3 l6 wa
  have hz8 := HZ8.out
  have H3 : Hid (Row (w1.alloc (.cells (arr wd) 104)) g3 (arr8 s) 97) := Lib.hid (p3.alloc _)
  go_wp2_with (first
    | (refine wpList_put_row rfl 104 _ _ rfl w1.heap.size rfl (arr wd) rfl 104 _ (heap_alloc_new w1 _) (by rw [hsz]; exact HI.out) (by rw [hsz]; simp) (arr_one _) ?_; rw [World.setRow_alloc_new])
    | (refine wpList_load_row rfl 97 _ rfl g3 rfl 97 (arr8 s) (0, 0) _ H3.out Tryd.underlying97 rfl HI8.out ?_)
    | (refine wpList_put_row rfl 97 _ _ rfl (w1.heap.size + 1) rfl (arr8 s) rfl 97 _ (heap_alloc2_new w1 _ _) HI8.out (by rw [arr8_size]; simp) (arr8_one _) ?_))
  have q4 : Row (((w1.alloc (.cells (arr wd) 104)).alloc (.cells (Array.replicate 8 (.int .u32 0)) 97)).setRow (w1.heap.size + 1) (arr8 s)) w1.heap.size (arr wd) 104 :=
    ((Row.new _ _ _).alloc _).putFar _ (by omega) _
  have q5 : Row (((w1.alloc (.cells (arr wd) 104)).alloc (.cells (Array.replicate 8 (.int .u32 0)) 97)).setRow (w1.heap.size + 1) (arr8 s)) (w1.heap.size + 1) (arr8 s) 97 := by
    have := (Row.new (w1.alloc (.cells (arr wd) 104)) (Array.replicate 8 (.int .u32 0)) 97).put (arr8 s)
    simpa using this
  have q3 : Row (((w1.alloc (.cells (arr wd) 104)).alloc (.cells (Array.replicate 8 (.int .u32 0)) 97)).setRow (w1.heap.size + 1) (arr8 s)) g3 (arr8 s) 97 := ((p3.alloc _).alloc _).putFar _ (by omega) _
  have q6 : Row (((w1.alloc (.cells (arr wd) 104)).alloc (.cells (Array.replicate 8 (.int .u32 0)) 97)).setRow (w1.heap.size + 1) (arr8 s)) g6 (Array.replicate 8 (.int .u32 0)) 97 := ((p6.alloc _).alloc _).putFar _ (by omega) _
  have hle := pg.size
  have qg : Grew w (((w1.alloc (.cells (arr wd) 104)).alloc (.cells (Array.replicate 8 (.int .u32 0)) 97)).setRow (w1.heap.size + 1) (arr8 s)) none := ((pg.alloc _).alloc _).put _ (.inl (by omega)) _
  generalize hwz : ((w1.alloc (.cells (arr wd) 104)).alloc (.cells (Array.replicate 8 (.int .u32 0)) 97)).setRow (w1.heap.size + 1) (arr8 s) = wz at *
  have e35 : g3 ≠ w1.heap.size + 1 := by omega
  have e65 : g6 ≠ w1.heap.size + 1 := by omega
  have e45 : w1.heap.size ≠ w1.heap.size + 1 := by omega
  have hge5 : w.heap.size ≤ w1.heap.size + 1 := by omega
  generalize w1.heap.size + 1 = g5 at *
  generalize w1.heap.size = g4 at *
  have E35 := Lib.hid e35
  have E65 := Lib.hid e65
  have E45 := Lib.hid e45
  have E36 := Lib.hid hg36
  have GE3 : Hid (w.heap.size ≤ g3) := Lib.hid (by omega)
  have GE5 := Lib.hid hge5
  have GE6 := Lib.hid hge6
  clear hz hz8 hwz hsz p3 p6 pg H3 m3 m6 hle hg3 hge3 hge5 hge6 e35 e65 e45 hg36 HZ HZ8 HWD hle0
  go_loopw [9] (fun s17 wx => ∃ t : Nat, t ≤ 64 ∧ s17 = .int .i64 t ∧ Grew w wx none ∧ Row wx g3 (arr8 s) 97 ∧ Row wx g6 (Array.replicate 8 (.int .u32 0)) 97 ∧ Row wx g4 (arr wd) 104 ∧ Row wx g5 (arr8 (rnds K wd s t)) 97) (fun s17 _ => 64 - (intOf s17).toNat)
  case atStart => exact ⟨0, by omega, rfl, qg, q3, q6, q4, q5⟩
  case round =>
    obtain ⟨t, ht, rfl, hg, h3, h6, h4, h5⟩ := hrel
    by_cases hlt : t < 64
    · have hlt' : (t : Int) < 64 := by omega
      have hok := rnds_ok HS.out K wd t
      have hrn : rnds K wd s (t + 1) = rnd (rnds K wd s t) (K.getD t 0) (wd.getD t 0) := rfl
      have kt := (HHT.out.grown hg (by simp)) t hlt
      have kw : wr.cell? ⟨g4, t, none⟩ = some (.int .u32 (wd.getD t 0 : Int)) := (h4.cell t).trans (arr_get _ _ hlt)
      have lk := hK.getD t
      have lw := HWS.out.getD t
      generalize K.getD t 0 = kk at *
      generalize wd.getD t 0 = ww at *
      generalize hrs : rnds K wd s (t + 1) = st' at *
      have HRS := Lib.hid hrs
      clear hrs
      generalize rnds K wd s t = st at *
      obtain ⟨a, b', c, d, e, f, g, h⟩ := st
      have c0 : wr.cell? ⟨g5, 0, none⟩ = some (.int .u32 (a : Int)) := (h5.cell 0).trans rfl
      have c1 : wr.cell? ⟨g5, 1, none⟩ = some (.int .u32 (b' : Int)) := (h5.cell 1).trans rfl
      have c2 : wr.cell? ⟨g5, 2, none⟩ = some (.int .u32 (c : Int)) := (h5.cell 2).trans rfl
      have c3 : wr.cell? ⟨g5, 3, none⟩ = some (.int .u32 (d : Int)) := (h5.cell 3).trans rfl
      have c4 : wr.cell? ⟨g5, 4, none⟩ = some (.int .u32 (e : Int)) := (h5.cell 4).trans rfl
      have c5 : wr.cell? ⟨g5, 5, none⟩ = some (.int .u32 (f : Int)) := (h5.cell 5).trans rfl
      have c6 : wr.cell? ⟨g5, 6, none⟩ = some (.int .u32 (g : Int)) := (h5.cell 6).trans rfl
      have c7 : wr.cell? ⟨g5, 7, none⟩ = some (.int .u32 (h : Int)) := (h5.cell 7).trans rfl
      have H1 : Hid (∀ m s', Grew w ((wr.drewN m).setRow g5 (arr8 s')) none ∧ Row ((wr.drewN m).setRow g5 (arr8 s')) g3 (arr8 s) 97 ∧ Row ((wr.drewN m).setRow g5 (arr8 s')) g6 (Array.replicate 8 (.int .u32 0)) 97 ∧ Row ((wr.drewN m).setRow g5 (arr8 s')) g4 (arr wd) 104 ∧ Row ((wr.drewN m).setRow g5 (arr8 s')) g5 (arr8 s') 97) :=
        Lib.hid fun m s' => ⟨(hg.drewN m).put _ (.inl GE5.out) _, (h3.drewN m).putFar _ E35.out _, (h6.drewN m).putFar _ E65.out _, (h4.drewN m).putFar _ E45.out _, (h5.drewN m).put _⟩
      obtain ⟨la, lb, lc, ld, le, lf, lg, lh⟩ := hok
      simp only at la lb lc ld le lf lg lh
      have T6 : Hid (∀ W, Calls Tryd.prog 81 #[.int .u32 (e : Int), .int .u64 6] W (fun e' w' => e' = .returned (.int .u32 ((rot 6 e : Nat) : Int)) ∧ w' = W)) := Lib.hid fun W => rotr_calls 6 e (by decide) (by decide) le W
      have T11 : Hid (∀ W, Calls Tryd.prog 81 #[.int .u32 (e : Int), .int .u64 11] W (fun e' w' => e' = .returned (.int .u32 ((rot 11 e : Nat) : Int)) ∧ w' = W)) := Lib.hid fun W => rotr_calls 11 e (by decide) (by decide) le W
      have T25 : Hid (∀ W, Calls Tryd.prog 81 #[.int .u32 (e : Int), .int .u64 25] W (fun e' w' => e' = .returned (.int .u32 ((rot 25 e : Nat) : Int)) ∧ w' = W)) := Lib.hid fun W => rotr_calls 25 e (by decide) (by decide) le W
      have T2 : Hid (∀ W, Calls Tryd.prog 81 #[.int .u32 (a : Int), .int .u64 2] W (fun e' w' => e' = .returned (.int .u32 ((rot 2 a : Nat) : Int)) ∧ w' = W)) := Lib.hid fun W => rotr_calls 2 a (by decide) (by decide) la W
      have T13 : Hid (∀ W, Calls Tryd.prog 81 #[.int .u32 (a : Int), .int .u64 13] W (fun e' w' => e' = .returned (.int .u32 ((rot 13 a : Nat) : Int)) ∧ w' = W)) := Lib.hid fun W => rotr_calls 13 a (by decide) (by decide) la W
      have T22 : Hid (∀ W, Calls Tryd.prog 81 #[.int .u32 (a : Int), .int .u64 22] W (fun e' w' => e' = .returned (.int .u32 ((rot 22 a : Nat) : Int)) ∧ w' = W)) := Lib.hid fun W => rotr_calls 22 a (by decide) (by decide) la W
      have x1 := xorw (rot 6 e) (rot 11 e) (rot_lt 6 le) (rot_lt 11 le)
      have l1 : rot 6 e ^^^ rot 11 e < 4294967296 := xor_lt' (k := 32) (rot_lt 6 le) (rot_lt 11 le)
      have x2 := xorw (rot 6 e ^^^ rot 11 e) (rot 25 e) l1 (rot_lt 25 le)
      have l2 : rot 6 e ^^^ rot 11 e ^^^ rot 25 e < 4294967296 := xor_lt' (k := 32) l1 (rot_lt 25 le)
      have n1 := notw e le
      have ln : 4294967295 ^^^ e < 4294967296 := xor_lt' (k := 32) (by decide) le
      have a1 := andw e f le lf
      have a2 := andw (4294967295 ^^^ e) g ln lg
      have l3 : e &&& f < 4294967296 := and_lt le
      have l4 : (4294967295 ^^^ e) &&& g < 4294967296 := and_lt ln
      have x3 := xorw (e &&& f) ((4294967295 ^^^ e) &&& g) l3 l4
      have l5 : (e &&& f) ^^^ ((4294967295 ^^^ e) &&& g) < 4294967296 := xor_lt' (k := 32) l3 l4
      have x4 := xorw (rot 2 a) (rot 13 a) (rot_lt 2 la) (rot_lt 13 la)
      have l6 : rot 2 a ^^^ rot 13 a < 4294967296 := xor_lt' (k := 32) (rot_lt 2 la) (rot_lt 13 la)
      have x5 := xorw (rot 2 a ^^^ rot 13 a) (rot 22 a) l6 (rot_lt 22 la)
      have l7 : rot 2 a ^^^ rot 13 a ^^^ rot 22 a < 4294967296 := xor_lt' (k := 32) l6 (rot_lt 22 la)
      have a3 := andw a b' la lb
      have a4 := andw a c la lc
      have a5 := andw b' c lb lc
      have l8 : a &&& b' < 4294967296 := and_lt la
      have l9 : a &&& c < 4294967296 := and_lt la
      have l10 : b' &&& c < 4294967296 := and_lt lb
      have x6 := xorw (a &&& b') (a &&& c) l8 l9
      have l11 : (a &&& b') ^^^ (a &&& c) < 4294967296 := xor_lt' (k := 32) l8 l9
      have x7 := xorw ((a &&& b') ^^^ (a &&& c)) (b' &&& c) l11 l10
      have l12 : (a &&& b') ^^^ (a &&& c) ^^^ (b' &&& c) < 4294967296 := xor_lt' (k := 32) l11 l10
      have hone : one ⟨a, b', c, d, e, f, g, h⟩ kk ww = add (add (add (add h (rot 6 e ^^^ rot 11 e ^^^ rot 25 e)) ((e &&& f) ^^^ ((4294967295 ^^^ e) &&& g))) kk) ww := rfl
      have htwo : two ⟨a, b', c, d, e, f, g, h⟩ = add (rot 2 a ^^^ rot 13 a ^^^ rot 22 a) ((a &&& b') ^^^ (a &&& c) ^^^ (b' &&& c)) := rfl
      have hst : st' = ⟨add (one ⟨a, b', c, d, e, f, g, h⟩ kk ww) (two ⟨a, b', c, d, e, f, g, h⟩), a, b', c, add d (one ⟨a, b', c, d, e, f, g, h⟩ kk ww), e, f, g⟩ := hrn
      generalize one ⟨a, b', c, d, e, f, g, h⟩ kk ww = on at *
      generalize two ⟨a, b', c, d, e, f, g, h⟩ = tw at *
      generalize rot 6 e = r6 at *
      generalize rot 11 e = r11 at *
      generalize rot 25 e = r25 at *
      generalize rot 2 a = r2 at *
      generalize rot 13 a = r13 at *
      generalize rot 22 a = r22 at *
      generalize (4294967295 ^^^ e) = ne at *
      generalize ne &&& g = neg at *
      generalize e &&& f = ef at *
      generalize ef ^^^ neg = vch at *
      generalize a &&& b' = ab at *
      generalize a &&& c = ac at *
      generalize b' &&& c = bc at *
      generalize ab ^^^ ac = abc at *
      generalize abc ^^^ bc = vmaj at *
      generalize r6 ^^^ r11 = z1 at *
      generalize z1 ^^^ r25 = v1 at *
      generalize r2 ^^^ r13 = z2 at *
      generalize z2 ^^^ r22 = v0 at *
      have o1 := addw h v1
      have o2 := addw (add h v1) vch
      have o3 := addw (add (add h v1) vch) kk
      have o4 := addw (add (add (add h v1) vch) kk) ww
      rw [← hone] at o4
      have o5 := addw v0 vmaj
      rw [← htwo] at o5
      have o6 := addw on tw
      have o7 := addw d on
      generalize add (add (add h v1) vch) kk = m3 at *
      generalize add (add h v1) vch = m2 at *
      generalize add h v1 = m1 at *
      have lon : on < 4294967296 := by rw [hone]; exact add_lt _ _
      have ltw : tw < 4294967296 := by rw [htwo]; exact add_lt _ _
      generalize add on tw = na at *
      generalize add d on = nd at *
      have HST := Lib.hid hst
      clear hst
      clear hone htwo hrn l1 l3 l4 l6 l8 l9 l10 l11 l2 l5 l7 l12 ln la lb lc ld le lf lg lh lk lw lon ltw
      go_wp2_with fail
      go_quiet (first | (with_reducible exact Calls.quiet_of_same (T6.out _)) | (with_reducible exact Calls.quiet_of_same (T11.out _)) | (with_reducible exact Calls.quiet_of_same (T25.out _)))
      go_wp2_with fail
      go_quiet (first | (with_reducible exact quiet2 (T2.out _)) | (with_reducible exact quiet2 (T13.out _)) | (with_reducible exact quiet2 (T22.out _)))
      go_wp2_with (refine wpList_put_row rfl 97 _ _ rfl g5 rfl (arr8 ⟨na, a, b', c, nd, e, f, g⟩) rfl 97 (arr8 ⟨a, b', c, d, e, f, g, h⟩) (show _ from h5) HI8.out (by rw [arr8_size, arr8_size]) (arr8_one _) ?_)
      go_roundw
      case rel => exact ⟨t + 1, by omega, by go_num, by rw [HRS.out, HST.out]; exact H1.out _ _⟩
      case measure => simp [intOf]; omega
    · have ht64 : t = 64 := by omega
      rw [ht64] at h5
      have hlt' : ¬ (t : Int) < 64 := by omega
      have hm0 : arr8 s = wArr (mix 0 s (rnds K wd s 64)) := rfl
      rw [hm0] at h3
      generalize rnds K wd s 64 = v at *
      have HFIN : Hid (arr8 fin = wArr (mix 8 s v)) := Lib.hid (by rw [HC.out]; rfl)
      clear ht64 hm0 hlt q4 q5 q3 q6 qg h4 HC
      go_wp2
      go_loopw [14] (fun s99 wx => ∃ i : Nat, i ≤ 8 ∧ s99 = .int .i64 i ∧ Grew w wx none ∧ Row wx g3 (wArr (mix i s v)) 97 ∧ Row wx g6 (Array.replicate 8 (.int .u32 0)) 97 ∧ Row wx g5 (arr8 v) 97) (fun s99 _ => 8 - (intOf s99).toNat)
      case atStart => exact ⟨0, by omega, rfl, hg, h3, h6, h5⟩
      case round =>
        obtain ⟨i, hi, rfl, hg, h3, h6, h5⟩ := hrel
        by_cases hlt : i < 8
        · have hlt' : (i : Int) < 8 := by omega
          have c1 := (h3.cell i).trans (mix_get2 i s v hlt)
          have c2 := (h5.cell i).trans (arr8_get i v hlt)
          have f1 := h3.free i
          have o1 := addw (s.list.getD i 0) (v.list.getD i 0)
          have hst := mix_set2 i s v hlt
          generalize s.list.getD i 0 = x1 at *
          generalize v.list.getD i 0 = x2 at *
          generalize add x1 x2 = x3 at *
          have H1 : Hid (∀ m, Grew w ((wr.drewN m).setCell ⟨g3, i, none⟩ (.int .u32 (x3 : Int))) none ∧ Row ((wr.drewN m).setCell ⟨g3, i, none⟩ (.int .u32 (x3 : Int))) g3 (wArr (mix (i + 1) s v)) 97 ∧ Row ((wr.drewN m).setCell ⟨g3, i, none⟩ (.int .u32 (x3 : Int))) g6 (Array.replicate 8 (.int .u32 0)) 97 ∧ Row ((wr.drewN m).setCell ⟨g3, i, none⟩ (.int .u32 (x3 : Int))) g5 (arr8 v) 97) :=
            Lib.hid fun m => ⟨(hg.drewN m).set _ (.inl GE3.out) _, by rw [← hst]; exact (h3.drewN m).set _ _, (h6.drewN m).far _ (fun e => E36.out e.symm) _, (h5.drewN m).far _ (fun e => E35.out e.symm) _⟩
          clear hst hg h3 h5 h6
          go_wp2_with fail
          go_region
          go_wp2
          go_roundw
          case rel => exact ⟨i + 1, by omega, by go_num, H1.out _⟩
          case measure => simp [intOf]; omega
        · have hi8 : i = 8 := by omega
          rw [hi8, ← HFIN.out] at h3
          have hlt' : ¬ (i : Int) < 8 := by omega
          have h66 : Row (wr.setRow g6 (arr8 fin)) g6 (arr8 fin) 97 := h6.put _
          have hgf : Grew w (wr.setRow g6 (arr8 fin)) none := hg.put g6 (.inl GE6.out) _
          go_wp2_with (first | (refine wpList_put_row rfl 97 _ _ rfl g6 rfl (arr8 fin) rfl 97 _ h6 HI8.out (by rw [arr8_size]; simp) (arr8_one _) ?_) | refine wpList_load_row rfl 97 _ rfl g3 rfl 97 (arr8 fin) (0, 0) _ h3 Tryd.underlying97 rfl HI8.out ?_)
          (try simp only [Exit.inBlock, Exit.then])
          refine bodyPost_ret (v := .agg (arr8 fin)) (results_cell_row rfl _ _ g6 97 (arr8 fin) (0, 0) _ rfl h66 Tryd.underlying97 rfl HI8.out) rfl ⟨by rw [HFI.out], hgf⟩
end Go.Proofs.YtcenfedmbicofaaDoor.ShaBlock
