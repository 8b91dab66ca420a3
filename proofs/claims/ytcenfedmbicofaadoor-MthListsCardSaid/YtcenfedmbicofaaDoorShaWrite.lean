/- (*sha.Hash).Write: its walk. -/
import Derived.Test.YtcenfedmbicofaaDoorShaKit
set_option linter.unusedVariables false
set_option linter.unusedSimpArgs false
namespace Go.Proofs.YtcenfedmbicofaaDoor.ShaWrite
open Go.RowKit Go.Lib Go.Proofs.YtcenfedmbicofaaDoor.Base Go.Proofs.YtcenfedmbicofaaDoor.ShaPlain Go.Proofs.YtcenfedmbicofaaDoor.ShaRot Go.Proofs.YtcenfedmbicofaaDoor.Arr Go.Proofs.YtcenfedmbicofaaDoor.Mem Go.Proofs.YtcenfedmbicofaaDoor.ShaWords Go.Proofs.YtcenfedmbicofaaDoor.ShaTake Go.Proofs.YtcenfedmbicofaaDoor.ShaBlocks Go.Proofs.YtcenfedmbicofaaDoor.ShaKit

theorem held_calls (s : St) (r : List Nat) (n : Nat) (hr : r.length = 64) (b : Nat) (w : World) (hb : Row w b (hcells s r (n : Int)) 110) :
    Calls Tryd.prog 82 #[.pointer (some ⟨b, 0, none⟩)] w (fun e w' => e = .returned (.int .i64 ((n % 64 : Nat) : Int)) ∧ w' = w) := by
  have c := (hb.cell 72).trans (cell_n s r n hr)
  go_enter Tryd.func82, Tryd.ntmps82
  go_wp2
  go_ret
  exact ⟨by simp, rfl⟩
/-- What is whole has been taken, what is left over lies at the beginning of the rest. -/
theorem after (K : List Nat) (s0 : St) (t p r : List Nat) (q m : Nat) (hp : ∀ x ∈ p, x < 256) (hr : r.length = 64) (hr2 : ∀ x ∈ r, x < 256) (hq : t.length = 64 * q) (hm : m = p.length / 64) {w : World} {b : Nat}
    (h : Row w b (hcells (feed K (feed K s0 t q) p m) (r.take 0 ++ (p.drop (64 * m)).take (p.length - 64 * m) ++ r.drop (0 + (p.length - 64 * m))) ((t.length + p.length : Nat) : Int)) 110) : Hash K s0 w b (t ++ p) := by
  have e1 : (t ++ p).length = t.length + p.length := List.length_append
  have e2 : (t ++ p).length / 64 = q + m := by rw [e1]; omega
  have e3 : (p.drop (64 * m)).length = p.length - 64 * m := List.length_drop
  have e4 : (p.drop (64 * m)).take (p.length - 64 * m) = p.drop (64 * m) := List.take_of_length_le (by omega)
  rw [e4, List.take_zero, List.nil_append, Nat.zero_add] at h
  refine ⟨_, by rw [e2, feed_more K s0 t p q m hq, e1]; exact h, ?_, ?_, ?_⟩
  · rw [List.length_append, e3, List.length_drop, hr]; omega
  · intro x hx
    rcases List.mem_append.1 hx with hx | hx
    · exact hp x (List.mem_of_mem_drop hx)
    · exact hr2 x (List.mem_of_mem_drop hx)
  · rw [e2, e1, show (t.length + p.length) % 64 = p.length - 64 * m by omega, List.take_append_of_le_length (by omega), List.take_of_length_le (by omega),
      List.drop_append, List.drop_of_length_le (show t.length ≤ 64 * (q + m) by omega), List.nil_append, hq]
    congr 1
    omega
def Wrote (K : List Nat) (s0 : St) (t : List Nat) (p : ByteArray) (b : Nat) (w : World) (e : Ending) (w' : World) : Prop :=
  e = .returned (.int .i64 (p.size : Int)) ∧ Grew w w' (some b) ∧ Hash K s0 w' b (t ++ nbN p)
theorem blocks_hid (K : List Nat) (hK : Small K) (s : St) (hs : s.Ok) (b : Nat) (hbK : b ≠ 3) (r : List Nat) (hr : r.length = 64) (n : Int) :
    Hid (∀ (x : ByteArray) (w : World), x.size ≤ 1000000000000000 → Table K w → Row w b (hcells s r n) 110 → Calls Tryd.prog 84 #[.string x, .func (.func 83) #[.pointer (some ⟨b, 0, none⟩)] #[]] w (ShaBlocks.Left K s (nbN x) b r n w)) :=
  fun x w hx hT hb => blocks_calls K hK s hs x hx b hbK r hr n w hT hb
set_option maxHeartbeats 1000000 in
set_option maxRecDepth 1000000 in
theorem write_whole (K : List Nat) (hK : Small K) (s0 : St) (hs : s0.Ok) (p : ByteArray) (t : List Nat) (hsz : t.length + p.size ≤ 1000000000000000) (b : Nat) (hbK : b ≠ 3) (w : World)
    (hT : Table K w) (hH : Hash K s0 w b t) (h0 : t.length % 64 = 0) :
    Calls Tryd.prog 76 #[.pointer (some ⟨b, 0, none⟩), .string p] w (Wrote K s0 t p b w) := by
  obtain ⟨r, hb, hr, hr2, hr3⟩ := hH
  have hheld := Lib.hid (held_calls _ r t.length hr b w hb)
  rw [h0] at hheld
  have hok : (feed K s0 t (t.length / 64)).Ok := feed_ok hs _ _
  have HBL := blocks_hid K hK _ hok b hbK r hr (t.length : Int)
  have HB1 := Lib.hid hb
  have HT1 := Lib.hid hT
  have HR1 := Lib.hid hr
  have HAFTER : Hid (∀ W, Row W b (hcells (feed K (feed K s0 t (t.length / 64)) (nbN p) ((nbN p).length / 64)) (r.take 0 ++ ((nbN p).drop (64 * ((nbN p).length / 64))).take ((nbN p).length - 64 * ((nbN p).length / 64)) ++ r.drop (0 + ((nbN p).length - 64 * ((nbN p).length / 64)))) ((t.length : Int) + (p.size : Int))) 110 → Hash K s0 W b (t ++ nbN p)) :=
    Lib.hid fun W h => after K s0 t (nbN p) r (t.length / 64) _ (fun _ h => nbN_byte h) hr hr2 (by omega) rfl (by rw [nbN_length p] at h ⊢; rw [Int.natCast_add]; exact h)
  have HG1 := Lib.hid (Grew.refl w (some b))
  generalize feed K s0 t (t.length / 64) = S1 at *
  generalize r = r1 at *
  clear hb hT hr hr2 hr3 h0
  go_enter Tryd.func76, Tryd.ntmps76
  go_wp2_with fail
  refine hheld.out.mono ?_; rintro e w' ⟨rfl, rfl⟩
  go_wp2_with fail
  go_region_law (first
    | (refine step_copy_str rfl (.tmp 40) (.tmp 46) 78 9 rfl 5 Tryd.underlying78 rfl b 8 64 64 _ (by simp [Act.eval, Act.put]) (by simp [Act.eval, Act.put]; rfl) _ _ (by assumption) (by rw [hcells_size _ _ _ HR1.out]; exact Nat.le_trans (Nat.add_le_add_left (Nat.min_le_right _ _) 8) (by decide)) ?_)
    | (go_simp; go_at_call 84; refine (HBL.out p _ (by omega) (by exact HT1.out) (by exact HB1.out)).mono ?_; rintro e w2 ⟨u, rfl, hu, hg2, hb2⟩))
  have hus : u.size = p.size - 64 * (p.size / 64) := by rw [← nbN_length u, hu, List.length_drop, nbN_length p]
  have hm : Nat.min u.size 64 = u.size := Nat.min_eq_left (by omega)
  have hsp := hcells_splice (feed K S1 (nbN p) ((nbN p).length / 64)) r1 (t.length : Int) 0 u.size u HR1.out (by omega) (Nat.le_refl _)
  have hE : (List.take 8 (hcells (feed K S1 (nbN p) ((nbN p).length / 64)) r1 (t.length : Int)).toList ++ (byteCells (List.take (Nat.min u.size 64) u.data.toList) ++ List.drop (8 + Nat.min u.size 64) (hcells (feed K S1 (nbN p) ((nbN p).length / 64)) r1 (t.length : Int)).toList)).toArray =
      hcells (feed K S1 (nbN p) ((nbN p).length / 64)) (r1.take 0 ++ (nbN u).take u.size ++ r1.drop (0 + u.size)) (t.length : Int) := by
    rw [← hsp, hm]; simp
  have hrl : (r1.take 0 ++ (nbN u).take u.size ++ r1.drop (0 + u.size)).length = 64 := by
    have h1 := nbN_length u
    have h2 := HR1.out
    simp [h1, h2]; omega
  have hlu : (nbN u).take u.size = ((nbN p).drop (64 * ((nbN p).length / 64))).take ((nbN p).length - 64 * ((nbN p).length / 64)) := by
    rw [← hu, nbN_length p, ← hus]
  have HAF := fun W => HAFTER.out W
  rw [← hlu, show (nbN p).length - 64 * ((nbN p).length / 64) = u.size by rw [nbN_length p]; omega] at HAF
  simp only [nbN_length p] at hE HAF hb2 ⊢
  rw [hE]
  generalize (r1.take 0 ++ (nbN u).take u.size ++ r1.drop (0 + u.size)) = r2 at *
  generalize feed K S1 (nbN p) (p.size / 64) = S2 at *
  have hb3 := hb2.put (hcells S2 r2 (t.length : Int))
  have hg3 := HG1.out.drew.andThen (hg2.put b (.inr rfl) (hcells S2 r2 (t.length : Int))) (fun j e => .inr e)
  generalize w2.setRow b (hcells S2 r2 (t.length : Int)) = w3 at *
  have c3 := (hb3.cell 72).trans (cell_n S2 r2 _ hrl)
  have f3 := hb3.free 72
  have H4 := Lib.hid (hb3.set 72 (.int .i64 ((t.length : Int) + (p.size : Int))))
  have G4 := Lib.hid (hg3.set ⟨b, 72, none⟩ (.inr rfl) (.int .i64 ((t.length : Int) + (p.size : Int))))
  have HRL := Lib.hid hrl
  have HAF := Lib.hid HAF
  clear hb3 hg3 hE hsp hlu hu hg2 hb2 hm hrl hus
  go_wp2
  go_ret
  exact ⟨rfl, G4.out, HAF.out _ (by have := H4.out; rwa [set_n _ _ _ _ HRL.out] at this)⟩
theorem join_rest (r : List Nat) (h m : Nat) (x : List Nat) (hr : r.length = 64) (hh : h + m ≤ 64) (hm : m ≤ x.length) : (r.take h ++ x.take m ++ r.drop (h + m)).length = 64 := by
  simp [hr]; omega
set_option maxHeartbeats 1000000 in
set_option maxRecDepth 1000000 in
theorem write_less (K : List Nat) (hK : Small K) (s0 : St) (hs : s0.Ok) (p : ByteArray) (t : List Nat) (hsz : t.length + p.size ≤ 1000000000000000) (b : Nat) (hbK : b ≠ 3) (w : World)
    (hT : Table K w) (hH : Hash K s0 w b t) (h0 : t.length % 64 ≠ 0) (h1 : t.length % 64 + p.size < 64) :
    Calls Tryd.prog 76 #[.pointer (some ⟨b, 0, none⟩), .string p] w (Wrote K s0 t p b w) := by
  obtain ⟨r, hb, hr, hr2, hr3⟩ := hH
  have hheld := Lib.hid (held_calls _ r t.length hr b w hb)
  have hok : (feed K s0 t (t.length / 64)).Ok := feed_ok hs _ _
  have hq : t.length = 64 * (t.length / 64) + t.length % 64 := by omega
  have hlt : t.length % 64 < 64 := by omega
  have hpn := nbN_length p
  have hjl := join_rest r (t.length % 64) p.size (nbN p) hr (by omega) (by omega)
  have htk : (nbN p).take p.size = nbN p := List.take_of_length_le (by omega)
  have hd : (t ++ nbN p).length / 64 = t.length / 64 := by rw [List.length_append]; omega
  have hm : (t ++ nbN p).length % 64 = t.length % 64 + p.size := by rw [List.length_append]; omega
  have hl : (t ++ nbN p).length = t.length + p.size := by rw [List.length_append, hpn]
  have hHASH : ∀ W, Row W b (hcells (feed K s0 t (t.length / 64)) (r.take (t.length % 64) ++ (nbN p).take p.size ++ r.drop (t.length % 64 + p.size)) ((t.length : Int) + (p.size : Int))) 110 → Hash K s0 W b (t ++ nbN p) := fun W h => by
    refine ⟨_, by rw [hd, feed_append K s0 t (nbN p) (t.length / 64) (by omega), hl, Int.natCast_add]; exact h, hjl, ?_, ?_⟩
    · intro x hx
      simp only [List.mem_append] at hx
      rcases hx with (hx | hx) | hx
      · exact hr2 x (List.mem_of_mem_take hx)
      · exact nbN_byte (List.mem_of_mem_take hx)
      · exact hr2 x (List.mem_of_mem_drop hx)
    · rw [hm, hd, htk, List.take_append_of_le_length (by simp [hr]; omega), List.take_of_length_le (by simp [hr]; omega), hr3, List.drop_append_of_le_length (by omega)]
  have hsp := hcells_splice (feed K s0 t (t.length / 64)) r (t.length : Int) (t.length % 64) p.size p hr (by omega) (Nat.le_refl _)
  have HT := Lib.hid hT
  have hxe : nbN (p.extract p.size p.size) = [] := by rw [nbN_extract, List.extract_eq_take_drop]; simp
  have hxs : (p.extract p.size p.size).size = 0 := by rw [ByteArray.size_extract]; omega
  have HH := Lib.hid hHASH
  have hszc := hcells_size (feed K s0 t (t.length / 64)) r (t.length : Int) hr
  generalize feed K s0 t (t.length / 64) = S1 at *
  have HBL := blocks_hid K hK S1 hok b hbK _ hjl (t.length : Int)
  generalize (r.take (t.length % 64) ++ (nbN p).take p.size ++ r.drop (t.length % 64 + p.size)) = r1 at *
  generalize hH : t.length % 64 = hd' at *
  have hpos : (0 : Int) < hd' := by omega
  have hmin : Nat.min p.size (64 - hd') = p.size := Nat.min_eq_left (by omega)
  have hne : ((hd' : Int) + (p.size : Int) == 64) = false := by rw [beq_eq_false_iff_ne]; omega
  have hlt' : (hd' : Int) ≤ 64 := by omega
  have HR1 := Lib.hid hjl
  have HG1 := Lib.hid ((Grew.refl w (some b)).put b (.inr rfl) (hcells S1 r1 (t.length : Int)))
  have HB1 := Lib.hid (hb.put (hcells S1 r1 (t.length : Int)))
  have HT1 := Lib.hid (hT.grown ((Grew.refl w (some b)).put b (.inr rfl) (hcells S1 r1 (t.length : Int))) (by simpa using fun e => hbK e.symm))
  have hpz := slice_l (P := Tryd.prog) p 9 Tryd.underlying9 p.size (Nat.le_refl _)
  clear hr2 hr3 hHASH hH hd hm hl htk hT hq hr hpn hjl
  go_enter Tryd.func76, Tryd.ntmps76
  go_wp2_with fail
  refine hheld.out.mono ?_; rintro e w' ⟨rfl, rfl⟩
  go_wp2_with (refine wpList_copy_str rfl (.tmp 18) (.tmp 19) 78 9 rfl 5 Tryd.underlying78 rfl b (8 + hd') (64 - hd') (64 - hd') p (by simp [Act.eval, Act.put]) (by simp [Act.eval, Act.put]) _ _ hb (by rw [hszc, hmin]; omega) ?_)
  have hE1 : (List.take (8 + hd') (hcells S1 r (t.length : Int)).toList ++ (byteCells (List.take p.size p.data.toList) ++ List.drop (8 + hd' + p.size) (hcells S1 r (t.length : Int)).toList)).toArray = hcells S1 r1 (t.length : Int) := by
    rw [← hsp]; simp
  rw [hE1]
  obtain ⟨p1, hp1⟩ : ∃ p1, p1 = ByteArray.empty := ⟨_, rfl⟩
  rw [← hp1]
  have hn1 : nbN p1 = [] := by rw [hp1]; rfl
  have hs1 : p1.size = 0 := by rw [hp1]; rfl
  have HAFTER : Hid (∀ W, Row W b (hcells (feed K S1 (nbN p1) ((nbN p1).length / 64)) (r1.take 0 ++ ((nbN p1).drop (64 * ((nbN p1).length / 64))).take ((nbN p1).length - 64 * ((nbN p1).length / 64)) ++ r1.drop (0 + ((nbN p1).length - 64 * ((nbN p1).length / 64)))) ((t.length : Int) + (p.size : Int))) 110 → Hash K s0 W b (t ++ nbN p)) :=
    Lib.hid fun W h => HH.out W (by rw [hn1] at h; simpa [feed] using h)
  have HS1 := Lib.hid hs1
  clear hsp hE1 hp1 hpz hxe hxs hszc hb hmin hne hlt' hpos hn1 hs1
  go_region_law (first
    | (refine step_copy_str rfl (.tmp 40) (.tmp 46) 78 9 rfl 5 Tryd.underlying78 rfl b 8 64 64 _ (by simp [Act.eval, Act.put]) (by simp [Act.eval, Act.put]; rfl) _ _ (by assumption) (by rw [hcells_size _ _ _ HR1.out]; exact Nat.le_trans (Nat.add_le_add_left (Nat.min_le_right _ _) 8) (by decide)) ?_)
    | (go_simp; go_at_call 84; refine (HBL.out p1 _ (by rw [HS1.out]; decide) (by exact HT1.out) (by exact HB1.out)).mono ?_; rintro e w2 ⟨u, rfl, hu, hg2, hb2⟩))
  have hus : u.size = p1.size - 64 * (p1.size / 64) := by rw [← nbN_length u, hu, List.length_drop, nbN_length p1]
  have hm : Nat.min u.size 64 = u.size := Nat.min_eq_left (by omega)
  have hsp := hcells_splice (feed K S1 (nbN p1) ((nbN p1).length / 64)) r1 (t.length : Int) 0 u.size u HR1.out (by omega) (Nat.le_refl _)
  have hE : (List.take 8 (hcells (feed K S1 (nbN p1) ((nbN p1).length / 64)) r1 (t.length : Int)).toList ++ (byteCells (List.take (Nat.min u.size 64) u.data.toList) ++ List.drop (8 + Nat.min u.size 64) (hcells (feed K S1 (nbN p1) ((nbN p1).length / 64)) r1 (t.length : Int)).toList)).toArray =
      hcells (feed K S1 (nbN p1) ((nbN p1).length / 64)) (r1.take 0 ++ (nbN u).take u.size ++ r1.drop (0 + u.size)) (t.length : Int) := by
    rw [← hsp, hm]; simp
  have hrl : (r1.take 0 ++ (nbN u).take u.size ++ r1.drop (0 + u.size)).length = 64 := by
    have h1 := nbN_length u
    have h2 := HR1.out
    simp [h1, h2]; omega
  have hlu : (nbN u).take u.size = ((nbN p1).drop (64 * ((nbN p1).length / 64))).take ((nbN p1).length - 64 * ((nbN p1).length / 64)) := by
    rw [← hu, nbN_length p1, ← hus]
  have HAF := fun W => HAFTER.out W
  rw [← hlu, show (nbN p1).length - 64 * ((nbN p1).length / 64) = u.size by rw [nbN_length p1]; omega] at HAF
  simp only [nbN_length p1] at hE HAF hb2 ⊢
  rw [hE]
  generalize (r1.take 0 ++ (nbN u).take u.size ++ r1.drop (0 + u.size)) = r2 at *
  generalize feed K S1 (nbN p1) (p1.size / 64) = S2 at *
  have hb3 := hb2.put (hcells S2 r2 (t.length : Int))
  have hg3 := HG1.out.drew.andThen (hg2.put b (.inr rfl) (hcells S2 r2 (t.length : Int))) (fun j e => .inr e)
  generalize w2.setRow b (hcells S2 r2 (t.length : Int)) = w3 at *
  have c3 := (hb3.cell 72).trans (cell_n S2 r2 _ hrl)
  have f3 := hb3.free 72
  have H4 := Lib.hid (hb3.set 72 (.int .i64 ((t.length : Int) + (p.size : Int))))
  have G4 := Lib.hid (hg3.set ⟨b, 72, none⟩ (.inr rfl) (.int .i64 ((t.length : Int) + (p.size : Int))))
  have HRL := Lib.hid hrl
  have HAF := Lib.hid HAF
  clear hb3 hg3 hE hsp hlu hu hg2 hb2 hm hrl hus
  go_wp2
  go_ret
  exact ⟨rfl, G4.out, HAF.out _ (by have := H4.out; rwa [set_n _ _ _ _ HRL.out] at this)⟩
theorem nbN_nums (xs : List Nat) (h : ∀ x ∈ xs, x < 256) : nbN (strOfNums (xs.map fun x : Nat => (x : Int))) = xs := by
  simp only [nbN, son_list, List.map_map]
  conv => rhs; rw [← List.map_id xs]
  apply List.map_congr_left
  intro x hx
  have := h x hx
  simp only [Function.comp, id, Int.toNat_natCast, UInt8.toNat_ofNat']
  omega
set_option maxHeartbeats 1000000 in
set_option maxRecDepth 1000000 in
theorem write_more (K : List Nat) (hK : Small K) (s0 : St) (hs : s0.Ok) (p : ByteArray) (t : List Nat) (hsz : t.length + p.size ≤ 1000000000000000) (b : Nat) (hbK : b ≠ 3) (w : World)
    (hT : Table K w) (hH : Hash K s0 w b t) (h0 : t.length % 64 ≠ 0) (h1 : 64 ≤ t.length % 64 + p.size) :
    Calls Tryd.prog 76 #[.pointer (some ⟨b, 0, none⟩), .string p] w (Wrote K s0 t p b w) := by
  obtain ⟨r, hb, hr, hr2, hr3⟩ := hH
  have hheld := Lib.hid (held_calls _ r t.length hr b w hb)
  have hok : (feed K s0 t (t.length / 64)).Ok := feed_ok hs _ _
  have hlt : t.length % 64 < 64 := by omega
  have hpn := nbN_length p
  obtain ⟨k, hk⟩ : ∃ k, k = 64 - t.length % 64 := ⟨_, rfl⟩
  have hkp : k ≤ p.size := by omega
  have hjl := join_rest r (t.length % 64) k (nbN p) hr (by omega) (by omega)
  have hjb : ∀ x ∈ (r.take (t.length % 64) ++ (nbN p).take k ++ r.drop (t.length % 64 + k)), x < 256 := by
    intro x hx
    simp only [List.mem_append] at hx
    rcases hx with (hx | hx) | hx
    · exact hr2 x (List.mem_of_mem_take hx)
    · exact nbN_byte (List.mem_of_mem_take hx)
    · exact hr2 x (List.mem_of_mem_drop hx)
  have hfd : comp K (feed K s0 t (t.length / 64)) (r.take (t.length % 64) ++ (nbN p).take k ++ r.drop (t.length % 64 + k)) = feed K s0 (t ++ (nbN p).take k) (t.length / 64 + 1) := by
    have hd0 : r.drop (t.length % 64 + k) = [] := List.drop_of_length_le (by omega)
    rw [hd0, List.append_nil] at hjl ⊢
    rw [feed, feed_append K s0 t _ (t.length / 64) (by omega), List.drop_append_of_le_length (by omega), ← hr3]
    congr 1
    exact (List.take_of_length_le (Nat.le_of_eq hjl)).symm
  have hp1 : nbN (p.extract k p.size) = (nbN p).drop k := by rw [nbN_extract, List.extract_eq_take_drop, List.take_of_length_le (by rw [List.length_drop]; omega)]
  have hp1s : (p.extract k p.size).size = p.size - k := by rw [ByteArray.size_extract]; omega
  have hpz := slice_l (P := Tryd.prog) p 9 Tryd.underlying9 k hkp
  have hlen : (t ++ (nbN p).take k).length = 64 * (t.length / 64 + 1) := by rw [List.length_append, List.length_take, hpn, Nat.min_eq_left hkp]; omega
  have hsp := hcells_splice (feed K s0 t (t.length / 64)) r (t.length : Int) (t.length % 64) k p hr (by omega) hkp
  have hszc := hcells_size (feed K s0 t (t.length / 64)) r (t.length : Int) hr
  generalize hP1 : p.extract k p.size = p1 at *
  have HAFTER : Hid (∀ W, Row W b (hcells (feed K (feed K s0 (t ++ (nbN p).take k) (t.length / 64 + 1)) (nbN p1) ((nbN p1).length / 64)) ((r.take (t.length % 64) ++ (nbN p).take k ++ r.drop (t.length % 64 + k)).take 0 ++ ((nbN p1).drop (64 * ((nbN p1).length / 64))).take ((nbN p1).length - 64 * ((nbN p1).length / 64)) ++ (r.take (t.length % 64) ++ (nbN p).take k ++ r.drop (t.length % 64 + k)).drop (0 + ((nbN p1).length - 64 * ((nbN p1).length / 64)))) ((t.length : Int) + (p.size : Int))) 110 → Hash K s0 W b (t ++ nbN p)) :=
    Lib.hid fun W h => by
      have := after K s0 (t ++ (nbN p).take k) (nbN p1) _ (t.length / 64 + 1) _ (fun _ h => nbN_byte h) hjl hjb hlen rfl (w := W) (b := b) (by
        rw [List.length_append, List.length_take, hpn, nbN_length p1, hp1s, Nat.min_eq_left hkp, show t.length + k + (p.size - k) = t.length + p.size by omega, Int.natCast_add]
        rw [nbN_length p1, hp1s] at h
        exact h)
      rwa [hp1, List.append_assoc, List.take_append_drop] at this
  have HTK : Hid (∀ (x : ByteArray) (wx : World), x.size = 64 → Table K wx → Row wx b (hcells (feed K s0 t (t.length / 64)) (r.take (t.length % 64) ++ (nbN p).take k ++ r.drop (t.length % 64 + k)) (t.length : Int)) 110 →
      Calls Tryd.prog 83 #[.pointer (some ⟨b, 0, none⟩), .string x] wx (Took K (feed K s0 t (t.length / 64)) (nbN x) b (r.take (t.length % 64) ++ (nbN p).take k ++ r.drop (t.length % 64 + k)) (t.length : Int) wx)) :=
    Lib.hid fun x wx hx hTx hbx => take_calls K hK _ hok x hx b hbK _ hjl _ wx hTx hbx
  rw [← hfd] at HAFTER
  have HBL := blocks_hid K hK _ (comp_ok K (feed K s0 t (t.length / 64)) (r.take (t.length % 64) ++ (nbN p).take k ++ r.drop (t.length % 64 + k))) b hbK _ hjl (t.length : Int)
  generalize feed K s0 t (t.length / 64) = S0 at *
  generalize (r.take (t.length % 64) ++ (nbN p).take k ++ r.drop (t.length % 64 + k)) = r1 at *
  have hst := nbN_nums r1 hjb
  have hsts : (strOfNums (r1.map fun x : Nat => (x : Int))).size = 64 := by rw [son_size, List.length_map]; exact hjl
  have g0 := (Grew.refl w (some b)).put b (.inr rfl) (hcells S0 r1 (t.length : Int))
  have b0 := hb.put (hcells S0 r1 (t.length : Int))
  have t0 := hT.grown g0 (by simpa using fun e => hbK e.symm)
  have cv := fun (W : World) (hW : Row W b (hcells S0 r1 (t.length : Int)) 110) => run_convert_bytes_arg (P := Tryd.prog) W 78 5 Tryd.underlying78 Tryd.underlying5 b 8 64 64 (r1.map fun x : Nat => (x : Int)) (by rw [List.length_map]; exact hjl)
    (fun i hi => by
      rw [hW.cell, cell_r S0 r1 _ i (by omega), List.getD_eq_getElem?_getD, List.getD_eq_getElem?_getD, List.getElem?_map]
      cases r1[i]? <;> rfl) 9 Tryd.underlying9
  have cv0 := cv _ b0
  have cv1 := cv _ b0.drew
  clear cv
  generalize strOfNums (r1.map fun x : Nat => (x : Int)) = st at *
  generalize hS1 : comp K S0 r1 = S1 at *
  generalize hH : t.length % 64 = hd' at *
  have hpos : (0 : Int) < hd' := by omega
  have hk64 : hd' + k = 64 := by omega
  have hmin : Nat.min p.size (64 - hd') = k := by rw [← hk]; exact Nat.min_eq_right hkp
  have hek : ((hd' : Int) + (k : Int) == 64) = true := by rw [beq_iff_eq]; omega
  have hlt' : (hd' : Int) ≤ 64 := by omega
  have hk2 : (k : Int) ≤ p.size := by omega
  have HR1 := Lib.hid hjl
  have HB0 := Lib.hid b0
  have HT0 := Lib.hid t0
  have HT := Lib.hid hT
  have HG0 := Lib.hid g0
  have HST := Lib.hid hst
  have HSS := Lib.hid hsts
  have HS1 := Lib.hid hS1
  have HP1S := Lib.hid hp1s
  have HK := Lib.hid hk
  have HP1 := Lib.hid hP1
  clear hr2 hr3 hH hT hr hpn hjl hjb hfd hlen hst hsts g0 b0 t0 hS1 hp1 hp1s hP1 hk
  go_enter Tryd.func76, Tryd.ntmps76
  go_wp2_with fail
  refine hheld.out.mono ?_; rintro e w' ⟨rfl, rfl⟩
  go_wp2_with (refine wpList_copy_str rfl (.tmp 18) (.tmp 19) 78 9 rfl 5 Tryd.underlying78 rfl b (8 + hd') (64 - hd') (64 - hd') p (by simp [Act.eval, Act.put]) (by simp [Act.eval, Act.put]) _ _ hb (by rw [hszc, hmin]; omega) ?_)
  have hE1 : (List.take (8 + hd') (hcells S0 r (t.length : Int)).toList ++ (byteCells (List.take k p.data.toList) ++ List.drop (8 + hd' + k) (hcells S0 r (t.length : Int)).toList)).toArray = hcells S0 r1 (t.length : Int) := by
    rw [← hsp]; simp
  rw [hE1]
  go_region_law (go_simp; go_at_call 83; refine (HTK.out st _ HSS.out (by exact HT0.out) (by exact HB0.out)).mono ?_; rintro e w1 ⟨rfl, hg1, hb1⟩)
  rw [HST.out, HS1.out] at hb1
  have HB1 := Lib.hid hb1
  have HG1 := Lib.hid (HG0.out.drew.andThen hg1 (fun j e => .inr e))
  have HT1 := Lib.hid (HT.out.grown HG1.out (by simpa using fun e => hbK e.symm))
  have HPL : Hid (p1.size ≤ 1000000000000000) := Lib.hid (by have := HP1S.out; omega)
  clear hb1 hg1 hE1 hsp hszc hb cv0 cv1 hpz hk2 hk64 hlt' hek hmin hpos
  go_wp2_with fail
  go_region_law (first
    | (refine step_copy_str rfl (.tmp 40) (.tmp 46) 78 9 rfl 5 Tryd.underlying78 rfl b 8 64 64 _ (by simp [Act.eval, Act.put]) (by simp [Act.eval, Act.put]; rfl) _ _ (by assumption) (by rw [hcells_size _ _ _ HR1.out]; exact Nat.le_trans (Nat.add_le_add_left (Nat.min_le_right _ _) 8) (by decide)) ?_)
    | (go_simp; go_at_call 84; refine (HBL.out p1 _ HPL.out (by exact HT1.out) (by exact HB1.out)).mono ?_; rintro e w2 ⟨u, rfl, hu, hg2, hb2⟩))
  have hus : u.size = p1.size - 64 * (p1.size / 64) := by rw [← nbN_length u, hu, List.length_drop, nbN_length p1]
  have hm : Nat.min u.size 64 = u.size := Nat.min_eq_left (by omega)
  have hsp := hcells_splice (feed K S1 (nbN p1) ((nbN p1).length / 64)) r1 (t.length : Int) 0 u.size u HR1.out (by omega) (Nat.le_refl _)
  have hE : (List.take 8 (hcells (feed K S1 (nbN p1) ((nbN p1).length / 64)) r1 (t.length : Int)).toList ++ (byteCells (List.take (Nat.min u.size 64) u.data.toList) ++ List.drop (8 + Nat.min u.size 64) (hcells (feed K S1 (nbN p1) ((nbN p1).length / 64)) r1 (t.length : Int)).toList)).toArray =
      hcells (feed K S1 (nbN p1) ((nbN p1).length / 64)) (r1.take 0 ++ (nbN u).take u.size ++ r1.drop (0 + u.size)) (t.length : Int) := by
    rw [← hsp, hm]; simp
  have hrl : (r1.take 0 ++ (nbN u).take u.size ++ r1.drop (0 + u.size)).length = 64 := by
    have h1 := nbN_length u
    have h2 := HR1.out
    simp [h1, h2]; omega
  have hlu : (nbN u).take u.size = ((nbN p1).drop (64 * ((nbN p1).length / 64))).take ((nbN p1).length - 64 * ((nbN p1).length / 64)) := by
    rw [← hu, nbN_length p1, ← hus]
  have HAF := fun W => HAFTER.out W
  rw [← hlu, show (nbN p1).length - 64 * ((nbN p1).length / 64) = u.size by rw [nbN_length p1]; omega] at HAF
  simp only [nbN_length p1] at hE HAF hb2 ⊢
  rw [hE]
  generalize (r1.take 0 ++ (nbN u).take u.size ++ r1.drop (0 + u.size)) = r2 at *
  generalize feed K S1 (nbN p1) (p1.size / 64) = S2 at *
  have hb3 := hb2.put (hcells S2 r2 (t.length : Int))
  have hg3 := HG1.out.drew.andThen (hg2.put b (.inr rfl) (hcells S2 r2 (t.length : Int))) (fun j e => .inr e)
  generalize w2.setRow b (hcells S2 r2 (t.length : Int)) = w3 at *
  have c3 := (hb3.cell 72).trans (cell_n S2 r2 _ hrl)
  have f3 := hb3.free 72
  have H4 := Lib.hid (hb3.set 72 (.int .i64 ((t.length : Int) + (p.size : Int))))
  have G4 := Lib.hid (hg3.set ⟨b, 72, none⟩ (.inr rfl) (.int .i64 ((t.length : Int) + (p.size : Int))))
  have HRL := Lib.hid hrl
  have HAF := Lib.hid HAF
  clear hb3 hg3 hE hsp hlu hu hg2 hb2 hm hrl hus
  go_wp2
  go_ret
  exact ⟨rfl, G4.out, HAF.out _ (by have := H4.out; rwa [set_n _ _ _ _ HRL.out] at this)⟩
theorem write_calls (K : List Nat) (hK : Small K) (s0 : St) (hs : s0.Ok) (p : ByteArray) (t : List Nat) (hsz : t.length + p.size ≤ 1000000000000000) (b : Nat) (hbK : b ≠ 3) (w : World)
    (hT : Table K w) (hH : Hash K s0 w b t) : Calls Tryd.prog 76 #[.pointer (some ⟨b, 0, none⟩), .string p] w (Wrote K s0 t p b w) := by
  by_cases h0 : t.length % 64 = 0
  · exact write_whole K hK s0 hs p t hsz b hbK w hT hH h0
  · by_cases h1 : t.length % 64 + p.size < 64
    · exact write_less K hK s0 hs p t hsz b hbK w hT hH h0 h1
    · exact write_more K hK s0 hs p t hsz b hbK w hT hH h0 (by omega)
end Go.Proofs.YtcenfedmbicofaaDoor.ShaWrite
