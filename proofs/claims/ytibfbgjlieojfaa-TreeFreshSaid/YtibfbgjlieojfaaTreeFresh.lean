/- TreeFresh: its walk. -/
import Derived.Test.YtibfbgjlieojfaaTreeCov
import Derived.Test.YtibfbgjlieojfaaKeep
set_option linter.unusedVariables false
set_option linter.unusedSimpArgs false
namespace Go.Proofs.Ytibfbgjlieojfaa.Cover
open Go.RowKit Go.Proofs.Ytibfbgjlieojfaa.Base Go.Proofs.Ytibfbgjlieojfaa.Nums Go.Proofs.Ytibfbgjlieojfaa.Cov Go.Proofs.Ytibfbgjlieojfaa.Mem Go.Proofs.Ytibfbgjlieojfaa.Lst

theorem numf_calls (a : Int) (w : World) : Calls Try.prog 12 #[.int .i64 a] w fun e w' => e = .returned (.int .i64 a) ∧ w = w' := (num_calls a w).mono fun _ _ h => ⟨h.1, h.2.symm⟩
def GaveE (l : List (Nat × Nat)) (c : Int) (w : World) (e : Ending) (w' : World) : Prop := ∃ v, e = .returned (.tuple #[v, .int .i64 c]) ∧ OwnA w' w.heap.size v l ∧ Below w.heap.size w w'
theorem cover_any (lo hi : Int) : ∃ (l : List (Nat × Nat)) (c : Int), l.length ≤ 122 ∧ (∀ w, Calls Try.prog 24 #[.int .i64 lo, .int .i64 hi] w (GaveE l c w)) ∧ (∀ w, Calls Try.prog 25 #[.int .i64 lo, .int .i64 hi] w (GaveE l c w)) := by
  by_cases hr : Refused lo hi
  · refine ⟨[], 10, by simp, fun w => (mcover_no lo hi w hr).mono ?_, fun w => (rcover_no lo hi w hr).mono ?_⟩
    · rintro e w' ⟨h1, rfl⟩; exact ⟨_, h1, World.ownsRow_nil _ _ _ _, Below.refl _ _⟩
    · rintro e w' ⟨h1, rfl⟩; exact ⟨_, h1, World.ownsRow_nil _ _ _ _, Below.refl _ _⟩
  · obtain ⟨a, ha⟩ : ∃ a : Nat, lo = a := ⟨lo.toNat, by unfold Refused at hr; omega⟩
    obtain ⟨b, hb⟩ : ∃ b : Nat, hi = b := ⟨hi.toNat, by unfold Refused at hr; omega⟩
    subst ha hb
    have hl : a ≤ b := by unfold Refused at hr; omega
    have hh : b ≤ 4611686018427387904 := by unfold Refused at hr; omega
    exact ⟨greedy a b, 0, greedy_len a b hl hh, fun w => (mcover_yes a b w hl hh).mono fun e w' ⟨v, h1, h2, _, h3⟩ => ⟨v, h1, h2, h3⟩, fun w => (rcover_yes a b w hl hh).mono fun e w' ⟨v, h1, h2, _, h3⟩ => ⟨v, h1, h2, h3⟩⟩
/-- Only draws lie between. -/
def Dr (w W : World) : Prop := ∃ k, W = w.drewN k
theorem Dr.refl (w : World) : Dr w w := ⟨0, rfl⟩
theorem same_dr (A B : Option Addr) (n c d : Nat) (l : List (Nat × Nat)) (w : World) (ha : Adr w A n l) (hb : Adr w B n l) (hn : n ≤ 1000000000000) (W : World) (hd : Dr w W) :
    Calls Try.prog 26 #[.slice A n c, .slice B n d] W (fun e w' => e = .returned (.bool true) ∧ Dr w w') := by
  obtain ⟨k, rfl⟩ := hd
  exact (same_calls A B n c d l (w.drewN k) ha hb hn).mono fun e w' ⟨h1, j, h2⟩ => ⟨h1, k + j, by rw [h2, World.drewN_drewN]⟩
theorem own_addr {w : World} {base E s n m c : Nat} {A : Option Addr} {cs : List Value} (h : w.ownsRow base E s (.slice A m c) n cs) (hn : 0 < n) : ∃ g, A = some ⟨g, 0, none⟩ := by
  rcases h.2 with ⟨h1, h2⟩ | ⟨g, cap, cur, h1, _⟩
  · omega
  · simp only [Value.slice.injEq] at h1
    exact ⟨g, h1.1⟩
def In (v : Value) (a b : Nat) : Prop := ∀ k, v.ownBlock = some k → a ≤ k ∧ k < b
abbrev mk (c : Int) : List Value := [.int .i64 c, .int .i64 0]
/-- A list is being written over. -/
def L1 (S : Nat → Prop) (w7 : World) (base : Nat) (v : Value) (n : Nat) (l : List (Nat × Nat)) (c : Int) (k : Nat) (wr : World) : Prop :=
  wr.ownsRow base 24 2 v n (mks (mk c) k ++ (ac l).drop (k * 2)) ∧ Kp S w7 wr
theorem l1_step {S : Nat → Prop} {w7 wr : World} {base n cp k : Nat} {A : Option Addr} {l : List (Nat × Nat)} {c : Int} (h : L1 S w7 base (.slice A n cp) n l c k wr) (hl : l.length = n) (hk : k < n) (hS : ∀ g, A = some ⟨g, 0, none⟩ → S g) :
    ∃ g, A = some ⟨g, 0, none⟩ ∧ (∃ u, wr.cell? ⟨g, k * 2, none⟩ = some u) ∧ (∃ u, wr.cell? ⟨g, k * 2 + 1, none⟩ = some u) ∧ wr.frozen? ⟨g, k * 2, none⟩ = false ∧ wr.frozen? ⟨g, k * 2 + 1, none⟩ = false ∧
      L1 S w7 base (.slice A n cp) n l c (k + 1) ((wr.setCell ⟨g, k * 2, none⟩ (.int .i64 c)).setCell ⟨g, k * 2 + 1, none⟩ (.int .i64 0)) ∧
      wr.grownBy ((wr.setCell ⟨g, k * 2, none⟩ (.int .i64 c)).setCell ⟨g, k * 2 + 1, none⟩ (.int .i64 0)) (some g) := by
  obtain ⟨ho, hkp⟩ := h
  obtain ⟨g, rfl⟩ := own_addr ho (by omega)
  have hlen := ho.1
  obtain ⟨h1, h2⟩ := over2 ho (by rw [ac_length, hl]) hk
  have hc : ∀ j, j < n * 2 → ∃ u, wr.cell? ⟨g, j, none⟩ = some u := fun j hj => by
    rw [ho.cellAt j hj]
    exact ⟨_, List.getElem?_eq_getElem (by omega)⟩
  exact ⟨g, rfl, hc _ (by omega), hc _ (by omega), ho.frozenAt _, ho.frozenAt _, ⟨h1, hkp.grown h2 fun k e _ => by cases e; exact hS g rfl⟩, h2⟩
theorem l1_end {S : Nat → Prop} {w7 wr : World} {base n : Nat} {v : Value} {l : List (Nat × Nat)} {c : Int} (h : L1 S w7 base v n l c n wr) (hl : l.length = n) :
    wr.ownsRow base 24 2 v n (mks (mk c) n) := by
  have := h.1
  rwa [List.drop_eq_nil_of_le (by rw [ac_length]; omega), List.append_nil] at this
theorem l1_start {S : Nat → Prop} {w7 wr : World} {base n : Nat} {v : Value} {l : List (Nat × Nat)} {c : Int} (h : wr.ownsRow base 24 2 v n (ac l)) (k : Kp S w7 wr) : L1 S w7 base v n l c 0 wr :=
  ⟨by simpa [mks] using h, k⟩
abbrev SS (vl vm : Value) : Nat → Prop := fun k => vl.ownBlock = some k ∨ vm.ownBlock = some k
/-- Two lists of marks, each in a row of its own. -/
def PQ (vl vm : Value) (w7 : World) (b1 b2 : Nat) (vp vq : Value) (np nq : Nat) (wr : World) : Prop :=
  wr.ownsRow b1 24 2 vp np (mks (mk (-1)) np) ∧ wr.ownsRow b2 24 2 vq nq (mks (mk (-2)) nq) ∧ Kp (SS vl vm) w7 wr ∧
  (∀ k, vp.ownBlock = some k → vl.ownBlock = some k ∨ w7.heap.size ≤ k) ∧ (∀ k, vq.ownBlock = some k → vm.ownBlock = some k ∨ w7.heap.size ≤ k) ∧ (∀ k, vp.ownBlock = some k → vq.ownBlock = some k → False)
variable {vl vm vp vq : Value} {w7 wr : World} {b1 b2 np nq : Nat}
theorem PQ.appP (h : PQ vl vm w7 b1 b2 vp vq np nq wr) {v1 : Value} {w1 : World} (ho : w1.ownsRow b1 24 2 v1 (np + 1) (mks (mk (-1)) np ++ mk (-1))) (hg : wr.grownBy w1 vp.ownBlock) (hat : v1.ownBlock = vp.ownBlock ∨ ∃ b, v1.ownBlock = some b ∧ wr.heap.size ≤ b) :
    PQ vl vm w7 b1 b2 v1 vq (np + 1) nq w1 := by
  obtain ⟨h1, h2, h3, h4, h5, h6⟩ := h
  refine ⟨ho, h2.kept hg ?_, h3.grown hg (fun k e hk => by rcases h4 k e with h | h; exact .inl h; omega), fun k e => ?_, h5, fun k e1 e2 => ?_⟩
  · rcases hq : vq.ownBlock with _ | k
    · exact .inl rfl
    · exact .inr fun e => h6 k e.symm hq
  · rcases hat with hat | ⟨b, hb, hb2⟩
    · exact h4 k (hat ▸ e)
    · rw [hb] at e; cases e; exact .inr (Nat.le_trans h3.size hb2)
  · rcases hat with hat | ⟨b, hb, hb2⟩
    · exact h6 k (hat ▸ e1) e2
    · rw [hb] at e1; cases e1; have := (h2.lt _ e2).2; omega
theorem PQ.appQ (h : PQ vl vm w7 b1 b2 vp vq np nq wr) {v1 : Value} {w1 : World} (ho : w1.ownsRow b2 24 2 v1 (nq + 1) (mks (mk (-2)) nq ++ mk (-2))) (hg : wr.grownBy w1 vq.ownBlock) (hat : v1.ownBlock = vq.ownBlock ∨ ∃ b, v1.ownBlock = some b ∧ wr.heap.size ≤ b) :
    PQ vl vm w7 b1 b2 vp v1 np (nq + 1) w1 := by
  obtain ⟨h1, h2, h3, h4, h5, h6⟩ := h
  refine ⟨h1.kept hg ?_, ho, h3.grown hg (fun k e hk => by rcases h5 k e with h | h; exact .inr h; omega), h4, fun k e => ?_, fun k e1 e2 => ?_⟩
  · rcases hp : vp.ownBlock with _ | k
    · exact .inl rfl
    · exact .inr fun e => h6 k hp e.symm
  · rcases hat with hat | ⟨b, hb, hb2⟩
    · exact h5 k (hat ▸ e)
    · rw [hb] at e; cases e; exact .inr (Nat.le_trans h3.size hb2)
  · rcases hat with hat | ⟨b, hb, hb2⟩
    · exact h6 k e1 (hat ▸ e2)
    · rw [hb] at e2; cases e2; have := (h1.lt _ e1).2; omega
section
variable {ops : Array Oper} {rest : List Oper} {o : Oper} {a : Act} {W : World} {Q : Exit → Act → World → Prop}
/-- append(v, x) of one element of two cells. -/
theorem wpList_app2 (base : Nat) (hgd : o.guard = none) (s x : Operand) (ho : o.op = .call { callee := .builtin .append, args := #[s, x], argTypes := #[37, 37] })
    (v : Value) (n : Nat) (cs : List Value) (n1 n2 : Int) (hs : a.eval s = v) (hx : a.eval x = .slice (some ⟨W.heap.size, 0, none⟩) 1 1)
    (HO : W.ownsRow base 24 2 v n cs) (hbase : base ≤ W.heap.size) (hl : n + 1 ≤ 8796093022208)
    (h : ∀ v1 w1, w1.ownsRow base 24 2 v1 (n + 1) (cs ++ [.int .i64 n1, .int .i64 n2]) → W.grownBy w1 v.ownBlock → (v1.ownBlock = v.ownBlock ∨ ∃ b, v1.ownBlock = some b ∧ W.heap.size ≤ b) → wpList Try.prog ops Q rest (a.put o.dst v1) w1) :
    wpList Try.prog ops Q (o :: rest) a (W.alloc (.cells #[.int .i64 n1, .int .i64 n2] 24)) := by
  obtain ⟨i, hi, hz, hsz, hby⟩ := info_parts infoAddr
  refine wpList_append_own_at (W.alloc (.cells #[.int .i64 n1, .int .i64 n2] 24)) hgd s x 37 ho base 24 i _ 2 16 Try.underlying37 hi hz hsz hby rfl (by omega) v n cs hs (HO.alloc _) ⟨W.heap.size, 0, none⟩ 1 1 [.int .i64 n1, .int .i64 n2] hx rfl
    (World.news_of_block (cs := #[.int .i64 n1, .int .i64 n2]) (t := 24) (fr := (0, 0)) (heap_alloc_new W _)) (by simp [Value.oneCell']) (by simp only [maxLen]; omega) (by omega) (by simp; omega) ?_
  intro v1 w1 hown hg hn hat
  refine h v1 w1 hown (World.grownBy.trans (World.grownBy_alloc W _ _) hg) ?_
  rcases hat with hat | hat
  · exact .inl hat
  · exact .inr ⟨_, hat, by simp⟩
end
theorem chk {base E n cp i : Nat} {A : Option Addr} {c : Int} (h : wr.ownsRow base E 2 (.slice A n cp) n (mks (mk c) n)) (hi : i < n) : ∃ g, A = some ⟨g, 0, none⟩ ∧ wr.cell? ⟨g, i * 2, none⟩ = some (.int .i64 c) := by
  obtain ⟨g, rfl⟩ := own_addr h (by omega)
  refine ⟨g, rfl, ?_⟩
  rw [h.cellAt _ (by omega)]
  exact mks_get (mk c) n i 0 hi (by simp)
theorem add_at (g j : Nat) : (⟨g, 0, none⟩ : Addr).add j = ⟨g, j, none⟩ := by unfold Addr.add; split <;> simp_all
set_option maxRecDepth 100000 in
set_option maxHeartbeats 8000000 in
theorem treeFresh_walk (lo hi fr to : Int) (w : World) (_ : (Lit.int .i64 lo).wf = true) (_ : (Lit.int .i64 hi).wf = true) (_ : (Lit.int .i64 fr).wf = true) (_ : (Lit.int .i64 to).wf = true) :
    Calls Try.prog 7 #[.int .i64 lo, .int .i64 hi, .int .i64 fr, .int .i64 to] w fun e w' => e = .returned (.bool true) ∧ Below w.heap.size w w' := by
  obtain ⟨l1, c1, hn1, M1, R1⟩ := cover_any lo hi
  obtain ⟨l2, c2, hn2, M2, R2⟩ := cover_any fr to
  have HM1 := Lib.hid M1
  have HM2 := Lib.hid M2
  have HR1 := Lib.hid R1
  have HR2 := Lib.hid R2
  clear M1 M2 R1 R2
  go_enter Try.func7, Try.ntmps7
  go_wp2_with fail
  refine (HR1.out _).mono ?_
  rintro e w1 ⟨vx, rfl, ox, bx⟩
  have OX := Lib.hid ox; have BX := Lib.hid bx; clear ox bx
  go_wp2_with fail
  refine (HR2.out _).mono ?_
  rintro e w2 ⟨vy, rfl, oy, by2⟩
  have OY := Lib.hid oy; have BY := Lib.hid by2; clear oy by2
  go_wp2_with fail
  refine (HM1.out _).mono ?_
  rintro e w3 ⟨vl, rfl, ol, bl⟩
  have OL := Lib.hid ol; have BL := Lib.hid bl; clear ol bl
  go_wp2_with fail
  refine (HM1.out _).mono ?_
  rintro e w4 ⟨vk, rfl, ok, bk⟩
  have OK := Lib.hid ok; have BK := Lib.hid bk; clear ok bk
  go_wp2_with fail
  refine (HM2.out _).mono ?_
  rintro e w5 ⟨vm, rfl, om, bm⟩
  have OM := Lib.hid om; have BM := Lib.hid bm; clear om bm
  go_wp2_with fail
  refine (HM2.out _).mono ?_
  rintro e w6 ⟨vo, rfl, oo, bo⟩
  have OO := Lib.hid oo; have BO := Lib.hid bo; clear oo bo
  go_wp2_with fail
  refine (HM1.out _).mono ?_
  rintro e w7 ⟨vz, rfl, oz, bz⟩
  have B57 := chain BO.out bz
  have B47 := chain BM.out B57
  have B37 := chain BK.out B47
  have B27 := chain BL.out B37
  have B17 := chain BY.out B27
  have B07 := Lib.hid (chain BX.out B17)
  have ix := Lib.hid (OX.out.lt)
  have iy := Lib.hid (OY.out.lt)
  have il := Lib.hid (OL.out.lt)
  have ik := Lib.hid (OK.out.lt)
  have im := Lib.hid (OM.out.lt)
  have io := Lib.hid (OO.out.lt)
  have iz := Lib.hid (oz.lt)
  have s1 := BX.out.size; have s2 := BY.out.size; have s3 := BL.out.size; have s4 := BK.out.size; have s5 := BM.out.size; have s6 := BO.out.size; have s7 := bz.size
  obtain ⟨Ax, cx, rfl, _, sx, _⟩ := OwnA.shape (own_below OX.out B17)
  obtain ⟨Ay, cy, rfl, _, sy, _⟩ := OwnA.shape (own_below OY.out B27)
  obtain ⟨Al, cl, hvl, _, sl, _⟩ := OwnA.shape (own_below OL.out B37)
  obtain ⟨Ak, ck, rfl, _, sk, _⟩ := OwnA.shape (own_below OK.out B47)
  obtain ⟨Am, cm, hvm, _, sm, _⟩ := OwnA.shape (own_below OM.out B57)
  obtain ⟨Ao, co, rfl, _, so, _⟩ := OwnA.shape (own_below OO.out bz)
  obtain ⟨Az, cz, rfl, _, sz, _⟩ := OwnA.shape oz
  have OL7 := Lib.hid (own_below OL.out B37)
  have OM7 := Lib.hid (own_below OM.out B57)
  have H1 := Lib.hid (fun A B c d W ha hb => same_dr A B l1.length c d l1 w7 ha hb (by omega) W)
  have H2 := Lib.hid (fun A B c d W ha hb => same_dr A B l2.length c d l2 w7 ha hb (by omega) W)
  have SX := Lib.hid sx; have SY := Lib.hid sy; have SL := Lib.hid sl; have SK := Lib.hid sk; have SM := Lib.hid sm; have SO := Lib.hid so; have SZ := Lib.hid sz
  subst hvl hvm
  have HD := Lib.hid (Dr.refl w7)
  clear sx sy sl sk sm so sz oz bz B57 B47 B37 B27 B17
  go_wp2_with (first
    | (go_at_call 12; ((with_reducible refine (numf_calls _ _).mono ?_); rintro e w' ⟨rfl, rfl⟩))
    | (go_at_call 26; ((with_reducible refine (H1.out Al Ax _ _ _ SL.out SX.out (Hid.out (by assumption))).mono ?_); rintro e w' ⟨rfl, hd⟩; have hd' := Lib.hid hd; clear hd))
    | (go_at_call 26; ((with_reducible refine (H2.out Am Ay _ _ _ SM.out SY.out (Hid.out (by assumption))).mono ?_); rintro e w' ⟨rfl, hd⟩; have hd' := Lib.hid hd; clear hd))
    | (go_at_call 26; ((with_reducible refine (H1.out Ak Ax _ _ _ SK.out SX.out (Hid.out (by assumption))).mono ?_); rintro e w' ⟨rfl, hd⟩; have hd' := Lib.hid hd; clear hd))
    | (go_at_call 26; ((with_reducible refine (H2.out Ao Ay _ _ _ SO.out SY.out (Hid.out (by assumption))).mono ?_); rintro e w' ⟨rfl, hd⟩; have hd' := Lib.hid hd; clear hd))
    | (go_at_call 26; ((with_reducible refine (H1.out Az Ax _ _ _ SZ.out SX.out (Hid.out (by assumption))).mono ?_); rintro e w' ⟨rfl, hd⟩; have hd' := Lib.hid hd; clear hd)))
  have hk0 : Kp (SS (.slice Al l1.length cl) (.slice Am l2.length cm)) w7 w' := by
    obtain ⟨kk, hk⟩ := hd'.out
    rw [hk]; exact Kp.of_below (drewN_below _ _)
  have hl0 : w'.ownsRow w2.heap.size 24 2 (.slice Al l1.length cl) l1.length (ac l1) := by
    obtain ⟨kk, hk⟩ := hd'.out
    rw [hk]; exact own_below OL7.out (drewN_below _ _)
  have hm0 : w'.ownsRow w4.heap.size 24 2 (.slice Am l2.length cm) l2.length (ac l2) := by
    obtain ⟨kk, hk⟩ := hd'.out
    rw [hk]; exact own_below OM7.out (drewN_below _ _)
  have HL0 := Lib.hid (show L1 (SS (.slice Al l1.length cl) (.slice Am l2.length cm)) w7 w2.heap.size (.slice Al l1.length cl) l1.length l1 (-1) 0 w' ∧ w'.ownsRow w4.heap.size 24 2 (.slice Am l2.length cm) l2.length (ac l2) from ⟨l1_start hl0 hk0, hm0⟩)
  have hne : ∀ g g', Al = some ⟨g, 0, none⟩ → (Value.slice Am l2.length cm).ownBlock = some g' → g ≠ g' := by
    rintro g g' rfl h2
    have h3 := (il.out g rfl).2
    have h4 := (im.out g' h2).1
    omega
  have HNE := Lib.hid hne
  clear hk0 hl0 hm0 hne
  go_loopw [23] (fun i wr => ∃ k : Nat, i = .int .i64 (k : Int) ∧ k ≤ l1.length ∧ Hid (L1 (SS (.slice Al l1.length cl) (.slice Am l2.length cm)) w7 w2.heap.size (.slice Al l1.length cl) l1.length l1 (-1) k wr ∧ wr.ownsRow w4.heap.size 24 2 (.slice Am l2.length cm) l2.length (ac l2))) (fun i _ => l1.length - (intOf i).toNat)
  case atStart => exact ⟨0, rfl, by omega, HL0⟩
  case round =>
    obtain ⟨k, rfl, hk, hr⟩ := hrel
    by_cases hlt : k < l1.length
    · obtain ⟨g, hA, ⟨u0, hc0⟩, ⟨u1, hc1⟩, f0, f1, hnx, hgr⟩ := l1_step hr.out.1 rfl hlt (fun g e => .inl (by subst e; rfl))
      have hm1 := hr.out.2.kept hgr (by
        rcases hb : (Value.slice Am l2.length cm).ownBlock with _ | g'
        · exact .inl rfl
        · exact .inr fun e => HNE.out g g' hA hb (Option.some.inj e).symm)
      have HNX := Lib.hid (And.intro hnx hm1)
      have hX : (⟨g, 0, none⟩ : Addr).add (k * 2) = ⟨g, k * 2, none⟩ := add_at _ _
      clear hnx hm1 hgr hr
      go_wp2
      go_roundw
      case rel => exact ⟨k + 1, by go_num, by omega, HNX⟩
      case measure => simp only [intOf]; omega
    · obtain rfl : k = l1.length := by omega
      have hL := l1_end hr.out.1 rfl
      have HP := Lib.hid (And.intro hL (l1_start (c := -2) hr.out.2 hr.out.1.2))
      clear hL hr
      go_wp2
      go_loopw [24] (fun i wr => ∃ k : Nat, i = .int .i64 (k : Int) ∧ k ≤ l2.length ∧ Hid (wr.ownsRow w2.heap.size 24 2 (.slice Al l1.length cl) l1.length (mks (mk (-1)) l1.length) ∧ L1 (SS (.slice Al l1.length cl) (.slice Am l2.length cm)) w7 w4.heap.size (.slice Am l2.length cm) l2.length l2 (-2) k wr)) (fun i _ => l2.length - (intOf i).toNat)
      case atStart => exact ⟨0, rfl, by omega, HP⟩
      case round =>
        obtain ⟨k, rfl, hk, hr⟩ := hrel
        by_cases hlt : k < l2.length
        · obtain ⟨g, hA, ⟨u0, hc0⟩, ⟨u1, hc1⟩, f0, f1, hnx, hgr⟩ := l1_step hr.out.2 rfl hlt (fun g e => .inr (by subst e; rfl))
          have hm1 := hr.out.1.kept hgr (by
            rcases hb : (Value.slice Al l1.length cl).ownBlock with _ | g'
            · exact .inl rfl
            · refine .inr fun e => ?_
              have e := (Option.some.inj e).symm
              subst e
              have h3 := (il.out _ hb).2
              have h4 := (im.out g (by subst hA; rfl)).1
              omega)
          have HNX := Lib.hid (And.intro hm1 hnx)
          have hX : (⟨g, 0, none⟩ : Addr).add (k * 2) = ⟨g, k * 2, none⟩ := add_at _ _
          clear hnx hm1 hgr hr
          go_wp2
          go_roundw
          case rel => exact ⟨k + 1, by go_num, by omega, HNX⟩
          case measure => simp only [intOf]; omega
        · obtain rfl : k = l2.length := by omega
          have hQ0 : PQ (.slice Al l1.length cl) (.slice Am l2.length cm) w7 w2.heap.size w4.heap.size (.slice Al l1.length cl) (.slice Am l2.length cm) l1.length l2.length _ :=
            ⟨hr.out.1, l1_end hr.out.2 rfl, hr.out.2.2, fun k e => .inl e, fun k e => .inl e, fun k e1 e2 => by have h3 := (il.out _ e1).2; have h4 := (im.out _ e2).1; omega⟩
          have HQ0 := Lib.hid hQ0
          have hz7 := hr.out.2.2.size
          have hz2 : w2.heap.size ≤ w7.heap.size := by omega
          have hz4 : w4.heap.size ≤ w7.heap.size := by omega
          clear hQ0 hr
          go_wp2_with (first
            | (at_builtin; refine wpList_app2 w2.heap.size rfl (.tmp 134) (.tmp 136) rfl _ l1.length _ (-1) 0 rfl rfl HQ0.out.1 (by omega) (by omega) ?_; intro vp w9 ho1 hg1 hat1; have HQ1 := Lib.hid (PQ.appP HQ0.out ho1 hg1 hat1); have hz9 := hg1.size; clear ho1 hg1 hat1)
            | (at_builtin; refine wpList_app2 w4.heap.size rfl (.tmp 138) (.tmp 140) rfl _ l2.length _ (-2) 0 rfl rfl HQ1.out.2.1 (by omega) (by omega) ?_; intro vq w10 ho2 hg2 hat2; have HQ2 := Lib.hid (PQ.appQ HQ1.out ho2 hg2 hat2); have hz10 := hg2.size; clear ho2 hg2 hat2))
          go_loopw [25, 26, 27] (fun s u i wr => ∃ (vp vq : Value) (k : Nat), vp = s ∧ vq = u ∧ i = .int .i64 (k : Int) ∧ 1 ≤ k ∧ k ≤ 200 ∧ Hid (PQ (.slice Al l1.length cl) (.slice Am l2.length cm) w7 w2.heap.size w4.heap.size vp vq (l1.length + k) (l2.length + k) wr)) (fun _ _ i _ => 200 - (intOf i).toNat)
          case atStart => exact ⟨_, _, 1, rfl, rfl, rfl, by omega, by omega, HQ2⟩
          case round =>
            clear HQ0 HQ1 HQ2 hz7 hz9 hz10
            obtain ⟨vp, vq, k, rfl, rfl, rfl, hk1, hk, hr⟩ := hrel
            have hzr := hr.out.2.2.1.size
            by_cases hlt : k < 200
            · have hlt' : (k : Int) < 200 := by omega
              go_wp2_with (first
                | (at_builtin; refine wpList_app2 w2.heap.size rfl (.tmp 146) (.tmp 148) rfl _ (l1.length + k) _ (-1) 0 rfl rfl hr.out.1 (by omega) (by omega) ?_; intro vp1 w9 ho1 hg1 hat1; have HQ1 := Lib.hid (PQ.appP hr.out ho1 hg1 hat1); have hz9 := hg1.size; clear ho1 hg1 hat1)
                | (at_builtin; refine wpList_app2 w4.heap.size rfl (.tmp 150) (.tmp 152) rfl _ (l2.length + k) _ (-2) 0 rfl rfl HQ1.out.2.1 (by omega) (by omega) ?_; intro vq1 w10 ho2 hg2 hat2; have HQ2 := Lib.hid (PQ.appQ HQ1.out ho2 hg2 hat2); have hz10 := hg2.size; clear ho2 hg2 hat2))
              go_roundw
              case rel => exact ⟨_, _, k + 1, rfl, rfl, by go_num, by omega, by omega, HQ2⟩
              case measure => simp only [intOf]; omega
            · obtain rfl : k = 200 := by omega
              obtain ⟨p1, p2, p3, _⟩ := hr.out
              obtain ⟨Ap, cp, rfl, _, _, _⟩ := own_shape p1
              obtain ⟨Aq, cq, rfl, _, _, _⟩ := own_shape p2
              have HP1 := Lib.hid p1
              have HP2 := Lib.hid p2
              have HP3 := Lib.hid p3
              clear hr p1 p2 p3
              generalize hN1 : l1.length + 200 = N1 at *
              generalize hN2 : l2.length + 200 = N2 at *
              have hb1 : N1 ≤ 322 := by omega
              have hb2 : N2 ≤ 322 := by omega
              clear hN1 hN2
              go_wp2
              go_loop [28] (fun i => ∃ j : Nat, i = .int .i64 (j : Int) ∧ j ≤ N1) (fun i => N1 - (intOf i).toNat)
              case atStart => exact ⟨0, rfl, by omega⟩
              case round =>
                obtain ⟨j, rfl, hj⟩ := hrel
                by_cases hjl : j < N1
                · obtain ⟨g, rfl, hc⟩ := chk HP1.out hjl
                  have hX : (⟨g, 0, none⟩ : Addr).add (j * 2) = ⟨g, j * 2, none⟩ := add_at _ _
                  go_wp2
                  go_round
                  case rel => exact ⟨j + 1, by go_num, by omega⟩
                  case measure => simp only [intOf]; omega
                · go_wp2
                  go_loop [29] (fun i => ∃ j : Nat, i = .int .i64 (j : Int) ∧ j ≤ N2) (fun i => N2 - (intOf i).toNat)
                  case atStart => exact ⟨0, rfl, by omega⟩
                  case round =>
                    obtain ⟨i, rfl, hi⟩ := hrel
                    by_cases hil : i < N2
                    · obtain ⟨g, rfl, hc⟩ := chk HP2.out hil
                      have hX : (⟨g, 0, none⟩ : Addr).add (i * 2) = ⟨g, i * 2, none⟩ := add_at _ _
                      go_wp2
                      go_round
                      case rel => exact ⟨i + 1, by go_num, by omega⟩
                      case measure => simp only [intOf]; omega
                    · go_wp2_with fail
                      refine (HM1.out _).mono ?_
                      rintro e wq ⟨vv, rfl, ov, bv⟩
                      obtain ⟨Av, cv, rfl, _, sv, _⟩ := OwnA.shape ov
                      have hS : ∀ k, SS (.slice Al l1.length cl) (.slice Am l2.length cm) k → (w2.heap.size ≤ k ∧ k < w3.heap.size) ∨ (w4.heap.size ≤ k ∧ k < w5.heap.size) := by
                        rintro k (h | h)
                        · exact .inl (il.out k h)
                        · exact .inr (im.out k h)
                      have TX := Lib.hid ((SX.out.kp HP3.out (fun ad e h => by have h1 := ix.out ad.block (by rw [e]; rfl); have h2 := hS _ h; omega)).below bv)
                      have TY := Lib.hid ((SY.out.kp HP3.out (fun ad e h => by have h1 := iy.out ad.block (by rw [e]; rfl); have h2 := hS _ h; omega)).below bv)
                      have TK := Lib.hid ((SK.out.kp HP3.out (fun ad e h => by have h1 := ik.out ad.block (by rw [e]; rfl); have h2 := hS _ h; omega)).below bv)
                      have TO := Lib.hid ((SO.out.kp HP3.out (fun ad e h => by have h1 := io.out ad.block (by rw [e]; rfl); have h2 := hS _ h; omega)).below bv)
                      have TZ := Lib.hid ((SZ.out.kp HP3.out (fun ad e h => by have h1 := iz.out ad.block (by rw [e]; rfl); have h2 := hS _ h; omega)).below bv)
                      have TV := Lib.hid sv
                      have HB := Lib.hid (chain (HP3.out.toBelow B07.out (by omega) (fun k h => by have h2 := hS _ h; omega)) bv)
                      have H3 := Lib.hid (fun A B c d W ha hb => same_dr A B l1.length c d l1 wq ha hb (by omega) W)
                      have H4 := Lib.hid (fun A B c d W ha hb => same_dr A B l2.length c d l2 wq ha hb (by omega) W)
                      have HD2 := Lib.hid (Dr.refl wq)
                      clear ov bv sv hS
                      go_wp2_with (first
                        | (go_at_call 26; ((with_reducible refine (H3.out Ak Ax _ _ _ TK.out TX.out (Hid.out (by assumption))).mono ?_); rintro e w' ⟨rfl, hd⟩; have hd' := Lib.hid hd; clear hd))
                        | (go_at_call 26; ((with_reducible refine (H4.out Ao Ay _ _ _ TO.out TY.out (Hid.out (by assumption))).mono ?_); rintro e w' ⟨rfl, hd⟩; have hd' := Lib.hid hd; clear hd))
                        | (go_at_call 26; ((with_reducible refine (H3.out Az Ax _ _ _ TZ.out TX.out (Hid.out (by assumption))).mono ?_); rintro e w' ⟨rfl, hd⟩; have hd' := Lib.hid hd; clear hd))
                        | (go_at_call 26; ((with_reducible refine (H3.out Av Ax _ _ _ TV.out TX.out (Hid.out (by assumption))).mono ?_); rintro e w' ⟨rfl, hd⟩; have hd' := Lib.hid hd; clear hd)))
                      go_ret
                      refine ⟨rfl, ?_⟩
                      obtain ⟨kk, hk⟩ := hd'.out
                      rw [hk]
                      exact chain HB.out (drewN_below _ _)
end Go.Proofs.Ytibfbgjlieojfaa.Cover
