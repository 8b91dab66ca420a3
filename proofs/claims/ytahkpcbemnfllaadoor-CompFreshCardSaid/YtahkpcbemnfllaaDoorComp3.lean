/- The statements' helpers on frontiers: roomy, other, back, untouched: their walks. -/
import Derived.Test.YtahkpcbemnfllaaDoorComp2
import Derived.Laws.MakeOwn
set_option linter.unusedVariables false
set_option linter.unusedSimpArgs false
namespace Go.Proofs.YtahkpcbemnfllaaDoor.Comp
open Go.RowKit Go.Proofs.YtahkpcbemnfllaaDoor.Base Go.Proofs.YtahkpcbemnfllaaDoor.Mem Go.Proofs.YtahkpcbemnfllaaDoor.Strs Go.Proofs.YtahkpcbemnfllaaDoor.ShaDig Go.Proofs.YtahkpcbemnfllaaDoor.TreeHash Go.Proofs.YtahkpcbemnfllaaDoor.Cov
open Go.Proofs.YtahkpcbemnfllaaDoor.Fold (foldH Fit)
open Go.Proofs.YtahkpcbemnfllaaDoor.Lst (OwnA Adr OwnA.shape Kp own_below)

def mark : ByteArray := ⟨#[109, 97, 114, 107]⟩
theorem own_cap {w : World} {base : Nat} {v : Value} {ss : List ByteArray} (h : Strs.Own w base v ss) (hp : 0 < ss.length) : ∃ g c, v = .slice (some ⟨g, 0, none⟩) ss.length c ∧ base ≤ g ∧ ss.length ≤ c := by
  rcases h.2 with ⟨_, h0⟩ | ⟨g, cap, cur, rfl, hb, _, hnc, _⟩
  · omega
  · exact ⟨g, cap, rfl, hb, hnc⟩
section
variable {ops : Array Oper} {rest : List Oper} {o : Oper} {a : Act} {W : World} {Q : Exit → Act → World → Prop}
/-- append(v, x, y) of two texts. -/
theorem wpList_appTwo {w0 : World} (base : Nat) (hgd : o.guard = none) (s x : Operand) (ho : o.op = .call { callee := .builtin .append, args := #[s, x], argTypes := #[22, 22] })
    (v : Value) (ss : List ByteArray) (y z : ByteArray) (hs : a.eval s = v) (hx : a.eval x = .slice (some ⟨W.heap.size, 0, none⟩) 2 2)
    (HO : Strs.Own W base v ss) (HB : Below base w0 W) (hbase : base ≤ W.heap.size) (hl : ss.length + 2 ≤ 8796093022208)
    (h : ∀ v1 w1, Strs.Own w1 base v1 (ss ++ [y, z]) → Below base w0 w1 → wpList Tryd.prog ops Q rest (a.put o.dst v1) w1) :
    wpList Tryd.prog ops Q (o :: rest) a (W.alloc (.cells #[.string y, .string z] 9)) := by
  obtain ⟨i, hi, hz, hsz, hby⟩ := infoStr
  refine wpList_append_own_at (W.alloc (.cells #[.string y, .string z] 9)) hgd s x 22 ho base 9 i _ 1 16 Tryd.underlying22 hi hz hsz hby rfl (by omega) v ss.length (sv ss) hs (HO.alloc _) ⟨W.heap.size, 0, none⟩ 2 2 [.string y, .string z] hx rfl
    (World.news_of_block (cs := #[.string y, .string z]) (t := 9) (fr := (0, 0)) (heap_alloc_new W _)) (by simp [Value.oneCell']) (by simp only [maxLen]; omega) (by omega) (by simp; omega) ?_
  intro v1 w1 hown hg _ hat
  exact h v1 w1 (by unfold Strs.Own; rw [List.length_append]; simpa [sv] using hown) ((HB.alloc hbase _).grown hg (by simp; omega) (Strs.Own.base_le HO))
end
def Roomy (lo hi : Int) (n : Nat) (ss : List ByteArray) (w : World) (e : Ending) (w' : World) : Prop :=
  ∃ g c, e = .returned (fv lo hi (some ⟨g, 0, none⟩) n c) ∧ n + 2 ≤ c ∧ w.heap.size ≤ g ∧ Strs.Own w' w.heap.size (.slice (some ⟨g, 0, none⟩) (n + 2) c) (ss ++ [mark, mark]) ∧ Below w.heap.size w w'
set_option maxRecDepth 100000 in
set_option maxHeartbeats 2000000 in
theorem roomy_calls (lo hi : Int) (A : Option Addr) (n c : Nat) (ss : List ByteArray) (w : World) (hS : Strs w A n ss) (hn : n ≤ 8796093022000) :
    Calls Tryd.prog 9 #[fv lo hi A n c] w (Roomy lo hi n ss w) := by
  have r1 := (Row.new w #[.int .i64 lo, .int .i64 hi, .slice A n c] 24).alloc (.cells #[.int .i64 0, .int .i64 0, .slice none 0 0] 24)
  have r2 := Row.new (w.alloc (.cells #[.int .i64 lo, .int .i64 hi, .slice A n c] 24)) #[.int .i64 0, .int .i64 0, .slice none 0 0] 24
  rw [World.size_alloc] at r2
  have hb0 : Below w.heap.size w ((w.alloc (.cells #[.int .i64 lo, .int .i64 hi, .slice A n c] 24)).alloc (.cells #[.int .i64 0, .int .i64 0, .slice none 0 0] 24)) := ((Below.refl _ w).alloc (Nat.le_refl _) _).alloc (by simp) _
  have hsz : ((w.alloc (.cells #[.int .i64 lo, .int .i64 hi, .slice A n c] 24)).alloc (.cells #[.int .i64 0, .int .i64 0, .slice none 0 0] 24)).heap.size = w.heap.size + 2 := by simp
  have HS0 := Lib.hid (hS.below hb0)
  have hl := Lib.hid hS.len
  clear hS
  go_enter Tryd.func9, Tryd.ntmps9
  go_wp2
  obtain ⟨W0, hW0⟩ : ∃ W0, ((w.alloc (.cells #[.int .i64 lo, .int .i64 hi, .slice A n c] 24)).alloc (.cells #[.int .i64 0, .int .i64 0, .slice none 0 0] 24)) = W0 := ⟨_, rfl⟩
  rw [hW0] at r1 r2 hb0 hsz HS0 ⊢
  clear hW0
  have HR1 := Lib.hid r1
  have HR2 := Lib.hid r2
  have HB0 := Lib.hid hb0
  have HSZ := Lib.hid hsz
  clear r1 r2 hb0 hsz
  go_loopw [3, 4] (fun s i wr => ∃ (v : Value) (j : Nat), v = s ∧ i = .int .i64 (j : Int) ∧ j ≤ n ∧ Hid (Strs.Own wr W0.heap.size v (ss.take j)) ∧ Hid (Below W0.heap.size W0 wr)) (fun _ i _ => n - (intOf i).toNat)
  case atStart => exact ⟨_, 0, rfl, rfl, by omega, Lib.hid (by rw [List.take_zero]; exact Strs.Own.nil _ _), Lib.hid (Below.refl _ _)⟩
  case round =>
    obtain ⟨v, j, rfl, rfl, hj, ho, hb⟩ := hrel
    have hcb := (HR1.out.below hb.out HR1.out.lt).cell 2
    have hz := hb.out.size
    by_cases hlt : j < n
    · obtain ⟨ad, rfl, _, hcell⟩ := (HS0.out.below hb.out).at_ j hlt
      have htk : ss.take (j + 1) = ss.take j ++ [ss.getD j ⟨#[]⟩] := by
        rw [List.take_succ_eq_append_getElem (by rw [hl.out]; exact hlt)]
        simp [List.getD_eq_getElem?_getD, hl.out, hlt]
      have HTK := Lib.hid htk
      have hjl : (ss.take j).length + 1 ≤ 8796093022208 := by rw [List.length_take]; omega
      have HJL := Lib.hid hjl
      clear htk hjl
      generalize ss.getD j ⟨#[]⟩ = x at *
      go_wp2_with (at_builtin; refine wpList_app1 W0.heap.size rfl (.tmp 12) (.tmp 18) rfl v _ x rfl rfl ho.out hb.out hz HJL.out ?_; intro v2 w4 ho2 hb2 _ _; rw [← HTK.out] at ho2; have HO4 := Lib.hid ho2; have HB4 := Lib.hid hb2; clear ho2 hb2)
      go_roundw
      case rel => exact ⟨_, j + 1, rfl, by go_num, by omega, HO4, HB4⟩
      case measure => simp only [intOf]; omega
    · obtain rfl : j = n := by omega
      have ho' := ho.out
      rw [List.take_of_length_le (by rw [hl.out]; omega)] at ho'
      have HO := Lib.hid ho'
      have hjl : ss.length + 2 ≤ 8796093022208 := by rw [hl.out]; omega
      have HJL := Lib.hid hjl
      clear ho' ho hjl
      go_wp2_with (at_builtin; refine wpList_appTwo W0.heap.size rfl (.tmp 20) (.tmp 21) rfl v ss mark mark rfl rfl HO.out hb.out hz HJL.out ?_; intro v2 w4 ho2 hb2; obtain ⟨g, c2, hv2, hg2, hc2⟩ := own_cap ho2 (by simp); have hlen : (ss ++ [mark, mark]).length = j + 2 := (by rw [List.length_append, hl.out]; rfl); rw [hlen] at hv2 hc2; subst hv2; have hcut := run_cut_h w4 (some ⟨g, 0, none⟩) (j + 2) c2 j (by omega); have q1 := (HR1.out.below hb2 HR1.out.lt); have q2 := (HR2.out.below hb2 HR2.out.lt); have HG2 := Lib.hid hg2; have HC2 := Lib.hid hc2; have HO2 := Lib.hid ho2; have HB2 := Lib.hid hb2; have q10 := q1.cell 0; have q11 := q1.cell 1; have q12 := q1.cell 2; have f12 := q1.free 2; have q20 := q2.cell 0; have q21 := q2.cell 1; have q22 := q2.cell 2; have f20 := q2.free 0; have f21 := q2.free 1; have f22 := q2.free 2; clear ho2 hb2 q1 q2 hlen hg2 hc2 hcb)
      have hz0 := HSZ.out
      refine bodyPost_ret (v := fv lo hi (some ⟨g, 0, none⟩) j c2) (by simp [results, Tryd.f9, go_sem, q20, q21, q22]) rfl ⟨g, c2, rfl, HC2.out, by have := HG2.out; omega, ?_, ?_⟩
      · refine Strs.own_down (base := W0.heap.size) ?_ (by omega)
        exact ownsRow_setCell_below (ownsRow_setCell_below (ownsRow_setCell_below (ownsRow_setCell_below HO2.out (a := ⟨w.heap.size, 2, none⟩) (by show w.heap.size < _; omega) _) (a := ⟨w.heap.size + 1, 0, none⟩) (by show w.heap.size + 1 < _; omega) _) (a := ⟨w.heap.size + 1, 1, none⟩) (by show w.heap.size + 1 < _; omega) _) (a := ⟨w.heap.size + 1, 2, none⟩) (by show w.heap.size + 1 < _; omega) _
      · exact ((((HB0.out.trans (HB2.out.mono HB0.out.size)).setCell (p := ⟨w.heap.size, 2, none⟩) (Nat.le_refl _) _).setCell (p := ⟨w.heap.size + 1, 0, none⟩) (by simp) _).setCell (p := ⟨w.heap.size + 1, 1, none⟩) (by simp) _).setCell (p := ⟨w.heap.size + 1, 2, none⟩) (by simp) _
end Go.Proofs.YtahkpcbemnfllaaDoor.Comp
