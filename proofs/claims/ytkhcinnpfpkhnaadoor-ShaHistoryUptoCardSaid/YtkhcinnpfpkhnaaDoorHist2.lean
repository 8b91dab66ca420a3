/- ShaHistory: the document's hash; the bench. -/
import Derived.Test.YtkhcinnpfpkhnaaDoorHist1
set_option linter.unusedVariables false
set_option linter.unusedSimpArgs false
namespace Go.Proofs.YtkhcinnpfpkhnaaDoor.Hist
open Go.RowKit Go.Proofs.YtkhcinnpfpkhnaaDoor.Base Go.Proofs.YtkhcinnpfpkhnaaDoor.Mem Go.Proofs.YtkhcinnpfpkhnaaDoor.ShaDig Go.Proofs.YtkhcinnpfpkhnaaDoor.ShaLaws

/-! ### the document's hash -/
theorem rnewT (w : World) : Calls Tryd.prog 38 #[] w (fun e w' => ∃ q, e = .returned (ptr q) ∧ w.heap.size ≤ q ∧ Below w.heap.size w w' ∧ RT w' q ⟨#[]⟩) := by
  go_enter Tryd.func38, Tryd.ntmps38
  go_wp2
  go_ret
  exact ⟨w.heap.size, rfl, Nat.le_refl _, (Below.refl _ w).alloc (Nat.le_refl _) _, Row.new _ _ _⟩
theorem rcopyT (w : World) (b : Nat) (x : ByteArray) (h : RT w b x) : Calls Tryd.prog 41 #[ptr b] w (fun e w' => ∃ q, e = .returned (ptr q) ∧ w.heap.size ≤ q ∧ Below w.heap.size w w' ∧ RT w' q x) := by
  have c0 := Row.cell h 0
  go_enter Tryd.func41, Tryd.ntmps41
  go_wp2
  go_ret
  exact ⟨w.heap.size, rfl, Nat.le_refl _, (Below.refl _ w).alloc (Nat.le_refl _) _, Row.new _ _ _⟩
theorem rwriteT (w : World) (b : Nat) (x p : ByteArray) (h : RT w b x) (hs : x.size + p.size ≤ 1000000000000000) :
    Calls Tryd.prog 40 #[ptr b, .string p] w (fun e w' => e = .returned (.int .i64 (p.size : Int)) ∧ Grew w w' (some b) ∧ RT w' b (x ++ p)) := by
  have c0 := Row.cell h 0
  have f0 := Row.free h 0
  have HR : Hid (Grew w (w.setCell ⟨b, 0, none⟩ (.string (x ++ p))) (some b) ∧ RT (w.setCell ⟨b, 0, none⟩ (.string (x ++ p))) b (x ++ p)) := Lib.hid ⟨(Grew.refl w (some b)).set ⟨b, 0, none⟩ (.inr rfl) _, Row.set h 0 (.string (x ++ p))⟩
  clear h
  go_enter Tryd.func40, Tryd.ntmps40
  go_wp2
  go_ret
  exact ⟨rfl, HR.out.1, HR.out.2⟩
theorem rresetT (w : World) (b : Nat) (x : ByteArray) (h : RT w b x) :
    Calls Tryd.prog 42 #[ptr b] w (fun e w' => e = .returned (.tuple #[]) ∧ Grew w w' (some b) ∧ RT w' b ⟨#[]⟩) := by
  have c0 := Row.cell h 0
  have f0 := Row.free h 0
  have HR : Hid (Grew w (w.setCell ⟨b, 0, none⟩ (.string ⟨#[]⟩)) (some b) ∧ RT (w.setCell ⟨b, 0, none⟩ (.string ⟨#[]⟩)) b ⟨#[]⟩) := Lib.hid ⟨(Grew.refl w (some b)).set ⟨b, 0, none⟩ (.inr rfl) _, Row.set h 0 (.string ⟨#[]⟩)⟩
  clear h
  go_enter Tryd.func42, Tryd.ntmps42
  go_wp2
  go_end0
  exact ⟨rfl, HR.out.1, HR.out.2⟩
theorem rsumT (w : World) (hT : RTab w) (b : Nat) (x : ByteArray) (h : RT w b x) (hl : x.size ≤ 140737488355200) :
    Calls Tryd.prog 18 #[ptr b] w (Gives (dig x) w) := by
  have c0 := Row.cell h 0
  have HS := Lib.hid (refSum_calls x hl w hT)
  clear h hT
  go_enter Tryd.func18, Tryd.ntmps18
  go_wp2_with fail
  refine HS.out.mono ?_; rintro e w1 ⟨rfl, hb⟩
  go_wp2
  go_ret
  exact ⟨rfl, hb⟩
theorem rlenT (w : World) (b : Nat) (x : ByteArray) (h : RT w b x) :
    Calls Tryd.prog 20 #[ptr b] w (fun e w' => e = .returned (.int .i64 (x.size : Int)) ∧ w = w') := by
  have c0 := Row.cell h 0
  clear h
  go_enter Tryd.func20, Tryd.ntmps20
  go_wp2
  go_ret
  exact ⟨rfl, rfl⟩
/-! ### lists of pointers grow -/
theorem infoP : (Tryd.prog.info? 33).map (fun i => (i.zero, i.size, i.bytes)) = some (some (.pointer none), 1, 8) := by kernel_rfl
theorem infoR : (Tryd.prog.info? 35).map (fun i => (i.zero, i.size, i.bytes)) = some (some (.pointer none), 1, 8) := by kernel_rfl
theorem infos {P : Program} {t : TypeId} {z : Value} {s b : Nat} (h : (P.info? t).map (fun i => (i.zero, i.size, i.bytes)) = some (some z, s, b)) : ∃ i, P.info? t = some i ∧ i.zero = some z ∧ i.size = s ∧ i.bytes = b := by
  cases hq : P.info? t with
  | none => rw [hq] at h; exact absurd h (by simp)
  | some i => rw [hq] at h; simp at h; exact ⟨i, rfl, h.1, h.2.1, h.2.2⟩
theorem run_appP {W : World} (ty : TypeId) (base : Nat) (v : Value) (bs : List Nat) (q b : Nat) (HO : W.ownsRow base 33 1 v bs.length (bs.map ptr)) (hb : W.heap[b]? = some (.cells #[ptr q] 33 (0, 0))) (hbase : base ≤ W.heap.size) (hl : bs.length + 1 ≤ 1000) :
    ∃ g c w1, (Builtin.append_ #[29, 29] ty #[v, .slice (some ⟨b, 0, none⟩) 1 1]).run Tryd.prog W = .ok (.slice (some ⟨g, 0, none⟩) (bs.length + 1) c) w1 ∧ w1.ownsRow base 33 1 (.slice (some ⟨g, 0, none⟩) (bs.length + 1) c) (bs.length + 1) (bs.map ptr ++ [ptr q]) ∧ W.grownBy w1 v.ownBlock := by
  obtain ⟨i, hi, hz, hsz, hby⟩ := infos infoP
  obtain ⟨g, c, w1, hr, h2, h3, _, _⟩ := run_append_lies (P := Tryd.prog) W 29 ty base 33 i _ 1 8 Tryd.underlying29 hi hz hsz hby rfl (by omega) v bs.length (bs.map ptr) HO ⟨b, 0, none⟩ 1 1 [ptr q] rfl
    (World.news_of_block (cs := #[ptr q]) hb) (by simp [Value.oneCell']) (by omega) (by simp only [maxLen]; omega) (by omega) hbase W.heap.size rfl
  exact ⟨g, c, w1, hr, h2, h3⟩
theorem run_appR {W : World} (ty : TypeId) (base : Nat) (v : Value) (bs : List Nat) (q b : Nat) (HO : W.ownsRow base 35 1 v bs.length (bs.map ptr)) (hb : W.heap[b]? = some (.cells #[ptr q] 35 (0, 0))) (hbase : base ≤ W.heap.size) (hl : bs.length + 1 ≤ 1000) :
    ∃ g c w1, (Builtin.append_ #[30, 30] ty #[v, .slice (some ⟨b, 0, none⟩) 1 1]).run Tryd.prog W = .ok (.slice (some ⟨g, 0, none⟩) (bs.length + 1) c) w1 ∧ w1.ownsRow base 35 1 (.slice (some ⟨g, 0, none⟩) (bs.length + 1) c) (bs.length + 1) (bs.map ptr ++ [ptr q]) ∧ W.grownBy w1 v.ownBlock := by
  obtain ⟨i, hi, hz, hsz, hby⟩ := infos infoR
  obtain ⟨g, c, w1, hr, h2, h3, _, _⟩ := run_append_lies (P := Tryd.prog) W 30 ty base 35 i _ 1 8 Tryd.underlying30 hi hz hsz hby rfl (by omega) v bs.length (bs.map ptr) HO ⟨b, 0, none⟩ 1 1 [ptr q] rfl
    (World.news_of_block (cs := #[ptr q]) hb) (by simp [Value.oneCell']) (by omega) (by simp only [maxLen]; omega) (by omega) hbase W.heap.size rfl
  exact ⟨g, c, w1, hr, h2, h3⟩
/-! ### the bench -/
abbrev PfP := Pf 33 67 HT
abbrev PfR := Pf 35 69 RT
structure Bn (w0 : World) (bb : Nat) (vP vR : Value) (ps rs : List Nat) (tp tr : List ByteArray) (W : World) : Prop where
  bel : Below w0.heap.size w0 W
  wb : w0.heap.size ≤ bb
  box : Row W bb #[vP, vR] 32
  P : PfP w0 vP ps tp W
  R : PfR w0 vR rs tr W
section
variable {w0 W W' W2 : World} {bb : Nat} {vP vR : Value} {ps rs : List Nat} {tp tr : List ByteArray}
theorem Bn.call (h : Bn w0 bb vP vR ps rs tp tr W) (b : Below W.heap.size W W') : Bn w0 bb vP vR ps rs tp tr W' := ⟨h.bel.trans (b.mono h.bel.size), h.wb, h.box.below b h.box.lt, h.P.call kindP b, h.R.call kindR b⟩
theorem grewBel {b : Nat} (h : Below w0.heap.size w0 W) (hg : Grew W W' (some b)) (hb : w0.heap.size ≤ b) : Below w0.heap.size w0 W' :=
  ((Grew.of_below h none).andThen hg (fun j e => .inl (by obtain rfl := Option.some.inj e; exact hb))).below
theorem Bn.wroteP (h : Bn w0 bb vP vR ps rs tp tr W) {i : Nat} (hi : i < ps.length) (g : Grew W W' (some (ps.getD i 0))) {x : ByteArray} (hx : HT W' (ps.getD i 0) x) : Bn w0 bb vP vR ps rs (tp.set i x) tr W' := by
  obtain ⟨c, r⟩ := ht_row (h.P.here i hi).2
  refine ⟨grewBel h.bel g (h.P.here i hi).1, h.wb, h.box.kept g (fun e => ?_), h.P.wrote kindP hi g hx, h.R.kept kindR g (fun q e => ?_)⟩
  · injection e with e; exact ne_of_type h.box r (by decide) e
  · injection e with e; subst e; exact ⟨c, _, r, by decide, by decide⟩
theorem Bn.wroteR (h : Bn w0 bb vP vR ps rs tp tr W) {i : Nat} (hi : i < rs.length) (g : Grew W W' (some (rs.getD i 0))) {x : ByteArray} (hx : RT W' (rs.getD i 0) x) : Bn w0 bb vP vR ps rs tp (tr.set i x) W' := by
  obtain ⟨c, r⟩ := rt_row (h.R.here i hi).2
  refine ⟨grewBel h.bel g (h.R.here i hi).1, h.wb, h.box.kept g (fun e => ?_), h.P.kept kindP g (fun q e => ?_), h.R.wrote kindR hi g hx⟩
  · injection e with e; exact ne_of_type h.box r (by decide) e
  · injection e with e; subst e; exact ⟨c, _, r, by decide, by decide⟩
theorem own_none {base E s n : Nat} {v : Value} {cs : List Value} (h : W.ownsRow base E s v n cs) {b : Nat} {c : Array Value} {t : TypeId} (r : Row W b c t) (hn : t ≠ E) : some b ≠ v.ownBlock := fun e => by
  obtain ⟨c2, r2⟩ := own_row h e.symm
  exact ne_of_type r r2 hn rfl
/-- One hash more of the program's. -/
theorem Bn.addP (h : Bn w0 bb vP vR ps rs tp tr W) (b1 : Below W.heap.size W W') {q : Nat} {x : ByteArray} (hq : W.heap.size ≤ q) (hx : HT W' q x) {v2 : Value}
    (ho : W2.ownsRow w0.heap.size 33 1 v2 (ps.length + 1) (ps.map ptr ++ [ptr q])) (hg : W'.grownBy W2 vP.ownBlock) : Bn w0 bb v2 vR (ps ++ [q]) rs (tp ++ [x]) tr (W2.setCell ⟨bb, 0, none⟩ v2) ∧ Row W2 bb #[vP, vR] 32 := by
  have h1 := h.call b1
  have rb : Row W2 bb #[vP, vR] 32 := h1.box.kept hg (own_none h1.P.own h1.box (by decide))
  have hP := h.P.add kindP b1 hq h.bel.size hx ho hg
  have hR : PfR w0 vR rs tr W2 := h1.R.kept kindR hg (fun q e => by
    obtain ⟨c, r⟩ := own_row h1.P.own e
    exact ⟨c, _, r, by decide, by decide⟩)
  have g2 : Grew W2 (W2.setCell ⟨bb, 0, none⟩ v2) (some bb) := (Grew.refl W2 (some bb)).set ⟨bb, 0, none⟩ (.inr rfl) _
  have hb2 : Below w0.heap.size w0 W2 := h1.bel.grown hg h1.bel.size (fun b e => by
    rcases h1.P.own.2 with ⟨rfl, _⟩ | ⟨g, cap, cur, rfl, hb, _⟩
    · simp [Value.ownBlock] at e
    · simp only [Value.ownBlock, Option.some.injEq] at e; omega)
  exact ⟨⟨hb2.setCell (p := ⟨bb, 0, none⟩) h.wb _, h.wb, rb.set 0 v2, hP.kept kindP g2 (fun q e => by injection e with e; subst e; exact ⟨_, _, rb, by decide, by decide⟩), hR.kept kindR g2 (fun q e => by injection e with e; subst e; exact ⟨_, _, rb, by decide, by decide⟩)⟩, rb⟩
theorem Bn.addR (h : Bn w0 bb vP vR ps rs tp tr W) (b1 : Below W.heap.size W W') {q : Nat} {x : ByteArray} (hq : W.heap.size ≤ q) (hx : RT W' q x) {v2 : Value}
    (ho : W2.ownsRow w0.heap.size 35 1 v2 (rs.length + 1) (rs.map ptr ++ [ptr q])) (hg : W'.grownBy W2 vR.ownBlock) : Bn w0 bb vP v2 ps (rs ++ [q]) tp (tr ++ [x]) (W2.setCell ⟨bb, 1, none⟩ v2) ∧ Row W2 bb #[vP, vR] 32 := by
  have h1 := h.call b1
  have rb : Row W2 bb #[vP, vR] 32 := h1.box.kept hg (own_none h1.R.own h1.box (by decide))
  have hR := h.R.add kindR b1 hq h.bel.size hx ho hg
  have hP : PfP w0 vP ps tp W2 := h1.P.kept kindP hg (fun q e => by
    obtain ⟨c, r⟩ := own_row h1.R.own e
    exact ⟨c, _, r, by decide, by decide⟩)
  have g2 : Grew W2 (W2.setCell ⟨bb, 1, none⟩ v2) (some bb) := (Grew.refl W2 (some bb)).set ⟨bb, 1, none⟩ (.inr rfl) _
  have hb2 : Below w0.heap.size w0 W2 := h1.bel.grown hg h1.bel.size (fun b e => by
    rcases h1.R.own.2 with ⟨rfl, _⟩ | ⟨g, cap, cur, rfl, hb, _⟩
    · simp [Value.ownBlock] at e
    · simp only [Value.ownBlock, Option.some.injEq] at e; omega)
  exact ⟨⟨hb2.setCell (p := ⟨bb, 1, none⟩) h.wb _, h.wb, rb.set 1 v2, hP.kept kindP g2 (fun q e => by injection e with e; subst e; exact ⟨_, _, rb, by decide, by decide⟩), hR.kept kindR g2 (fun q e => by injection e with e; subst e; exact ⟨_, _, rb, by decide, by decide⟩)⟩, rb⟩
/-- The list of pointers as it is read. -/
theorem own_ptrs {base E : Nat} {v : Value} {bs : List Nat} (h : W.ownsRow base E 1 v bs.length (bs.map ptr)) (hn : 0 < bs.length) : ∃ g c, v = .slice (some ⟨g, 0, none⟩) bs.length c ∧ ∀ i, i < bs.length → W.cell? ⟨g, i, none⟩ = some (ptr (bs.getD i 0)) := by
  rcases h.2 with ⟨_, h0⟩ | ⟨g, cap, cur, rfl, hb, hh, hnc, hmx, hs, ht⟩
  · omega
  · refine ⟨g, cap, rfl, fun i hi => ?_⟩
    have := World.ownsRow.cells (g := g) h rfl i (ptr (bs.getD i 0)) (by simp [List.getD_eq_getElem?_getD, hi])
    have e : (⟨g, 0, none⟩ : Addr).add i = ⟨g, i, none⟩ := Arr.add_plain g i 0 |>.trans (by rw [Nat.zero_add])
    rwa [e] at this
end
theorem at_calls (bb : Nat) (A : Option Addr) (n c : Nat) (vR : Value) (on : Int) (w : World) (hb : Row w bb #[.slice A n c, vR] 32) (hn : 0 < n) (hn2 : n ≤ 50) :
    Calls Tryd.prog 39 #[ptr bb, .int .i64 on] w (fun e w' => ∃ i : Nat, i < n ∧ e = .returned (.int .i64 (i : Int)) ∧ w = w') := by
  have c0 := hb.cell 0
  obtain ⟨r, hr⟩ : ∃ r, on.tmod (n : Int) = r := ⟨_, rfl⟩
  have hr1 : -(n : Int) < r ∧ r < (n : Int) := by
    rw [← hr]
    have h1 := Int.tmod_lt_of_pos on (show (0 : Int) < (n : Int) by omega)
    have h2 : -(n : Int) < on.tmod (n : Int) := by
      have := Int.tmod_lt_of_pos (-on) (show (0 : Int) < (n : Int) by omega)
      rw [Int.neg_tmod] at this
      omega
    exact ⟨h2, h1⟩
  obtain ⟨i, hi, he⟩ : ∃ i : Nat, i < n ∧ (r + (n : Int)).tmod (n : Int) = (i : Int) := by
    refine ⟨((r + (n : Int)).tmod (n : Int)).toNat, ?_, ?_⟩
    · have := Int.tmod_lt_of_pos (r + (n : Int)) (show (0 : Int) < (n : Int) by omega)
      omega
    · have := Int.tmod_nonneg (a := r + (n : Int)) (n : Int) (by omega)
      omega
  have HI := Lib.hid hi
  have hn0 : ¬ ((n : Int) = 0) := by omega
  have hnb : ((n : Int) == 0) = false := by rw [beq_eq_false_iff_ne]; exact hn0
  clear hb hi
  go_enter Tryd.func39, Tryd.ntmps39
  go_wp2
  go_ret
  exact ⟨i, HI.out, rfl, rfl⟩
end Go.Proofs.YtkhcinnpfpkhnaaDoor.Hist
