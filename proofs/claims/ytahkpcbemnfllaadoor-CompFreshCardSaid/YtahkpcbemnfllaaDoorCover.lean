/- tree.Cover and the document's: their walks. -/
import Derived.Test.YtahkpcbemnfllaaDoorPieces
import Derived.BigQuiet
import Derived.Deep.AppendLies
import Derived.Deep.QuietTactic
set_option linter.unusedVariables false
set_option linter.unusedSimpArgs false
namespace Go.Proofs.YtahkpcbemnfllaaDoor.Cover
open Go.RowKit Go.Shelf Go.Proofs.YtahkpcbemnfllaaDoor.Base Go.Proofs.YtahkpcbemnfllaaDoor.Nums Go.Proofs.YtahkpcbemnfllaaDoor.Cov Go.Proofs.YtahkpcbemnfllaaDoor.Mem Go.Proofs.YtahkpcbemnfllaaDoor.Lst Go.Proofs.YtahkpcbemnfllaaDoor.Pieces
attribute [local go_sem] Oper.semAt_some

def Refused (lo hi : Int) : Prop := lo < 0 ∨ hi < lo ∨ 4611686018427387904 < hi
/-- The answer: a list of its own, and 0. -/
def Gave (l : List (Nat × Nat)) (w : World) (e : Ending) (w' : World) : Prop :=
  ∃ v, e = .returned (.tuple #[v, .int .i64 0]) ∧ OwnA w' w.heap.size v l ∧ (v = .slice none 0 0 ↔ l = []) ∧ Below w.heap.size w w'
def Not10 (w : World) (e : Ending) (w' : World) : Prop := e = .returned (.tuple #[.slice none 0 0, .int .i64 10]) ∧ w' = w
theorem mcover_no (lo hi : Int) (w : World) (h : Refused lo hi) : Calls Tryd.prog 31 #[.int .i64 lo, .int .i64 hi] w (Not10 w) := by
  unfold Refused at h
  rcases Int.lt_or_le lo 0 with h1 | h1
  · go_enter Tryd.func31, Tryd.ntmps31
    go_wp2
    go_ret2
    exact ⟨rfl, rfl⟩
  · rcases Int.lt_or_le hi lo with h2 | h2
    · go_enter Tryd.func31, Tryd.ntmps31
      go_wp2
      go_ret2
      exact ⟨rfl, rfl⟩
    · have h3 : 4611686018427387904 < hi := by omega
      go_enter Tryd.func31, Tryd.ntmps31
      go_wp2
      go_ret2
      exact ⟨rfl, rfl⟩
set_option maxRecDepth 100000 in
set_option maxHeartbeats 2000000 in
theorem mcover_yes (lo hi : Nat) (w : World) (hl : lo ≤ hi) (hh : hi ≤ 4611686018427387904) : Calls Tryd.prog 31 #[.int .i64 (lo : Int), .int .i64 (hi : Int)] w (Gave (greedy lo hi) w) := by
  refine (callsIn_wide (n := 6)).1 ?_
  obtain ⟨i0, hi0, hz0, hz1, hz2⟩ := info_parts infoAddr
  refine callsIn_of_wp_marks Tryd.func31 rfl trivial ?_ rfl
  simp only [Tryd.ntmps31, List.size_toArray, List.length_cons, List.length_nil, Nat.reduceAdd, Nat.reduceSub, Array.replicate_succ, Array.replicate_zero, List.push_toArray, List.append_toArray, List.nil_append, List.cons_append]
  have hh' : ¬ (4611686018427387904 : Int) < (hi : Int) := by omega
  have hl' : ¬ (hi : Int) < (lo : Int) := by omega
  have hl0 : ¬ (lo : Int) < 0 := by omega
  have hd0 : decide ((lo : Int) < 0) = false := decide_eq_false hl0
  gi_wp2_with (refine ⟨trivial, ?_⟩; gi_at_call 50; refine (callsIn_wide.2 (pieces_calls _ _ _)).mono ?_; rintro e w' ⟨rfl, rfl⟩)
  have bO := ((Boxed.new w 62 (.slice none 0 0)).alloc (.cells #[.int .i64 (lo : Int)] 3)).alloc (.cells #[.int .i64 (hi : Int)] 3)
  have bL := (Boxed.new (w.alloc (.cells #[.slice none 0 0] 62)) 3 (.int .i64 (lo : Int))).alloc (.cells #[.int .i64 (hi : Int)] 3)
  have bH := Boxed.new ((w.alloc (.cells #[.slice none 0 0] 62)).alloc (.cells #[.int .i64 (lo : Int)] 3)) 3 (.int .i64 (hi : Int))
  simp only [World.size_alloc] at bL bH
  have hB0 : Below w.heap.size w (((w.alloc (.cells #[.slice none 0 0] 62)).alloc (.cells #[.int .i64 (lo : Int)] 3)).alloc (.cells #[.int .i64 (hi : Int)] 3)) := (((Below.refl _ w).alloc (Nat.le_refl _) _).alloc (by simp) _).alloc (by simp; omega) _
  have hsz : (((w.alloc (.cells #[.slice none 0 0] 62)).alloc (.cells #[.int .i64 (lo : Int)] 3)).alloc (.cells #[.int .i64 (hi : Int)] 3)).heap.size = w.heap.size + 3 := by simp
  obtain ⟨W0, hW0⟩ : ∃ W0, ((w.alloc (.cells #[.slice none 0 0] 62)).alloc (.cells #[.int .i64 (lo : Int)] 3)).alloc (.cells #[.int .i64 (hi : Int)] 3) = W0 := ⟨_, rfl⟩
  rw [hW0] at bO bL bH hB0 hsz ⊢
  clear hW0
  have hlen := greedy_len lo hi hl hh
  refine wpIn_rangeFunc_ownH rfl (by omega) (gf := 61) (lb := #[.pointer (some ⟨w.heap.size + 1, 0, none⟩), .pointer (some ⟨w.heap.size + 1 + 1, 0, none⟩)]) rfl trivial (enters_of Tryd.func61 (by kernel_rfl) rfl)
    (pieces_stops _ (by omega) (w.heap.size + 1) (w.heap.size + 1 + 1) lo hi hl hh W0 (by omega) (by omega) bL.cell bH.cell) (fun h k => k.trans h)
    (fun W l o o' hl _ _ _ => World.cell?_of_block (World.putObj_heap_other (by show w.heap.size + 1 + 1 ≠ l; omega))) (Below.refl _ _) (fun _ => rfl)
    (fun pre W => ((∃ v, Boxed W w.heap.size 62 v ∧ W.ownsRow w.heap.size 52 2 v pre.length (ac pre) ∧ (v = .slice none 0 0 ↔ pre = [])) ∧ Boxed W (w.heap.size + 1 + 1) 3 (.int .i64 (hi : Int))) ∧ Below w.heap.size w W)
    (fun _ _ _ => False)
    (OwnFrom.and (OwnFrom.and (Own.from (holdsRow_own w.heap.size w.heap.size 62 52 2 (fun pre => pre.length) (fun pre => ac pre) (fun pre v => v = .slice none 0 0 ↔ pre = [])) _) (Own.from (boxed_own _ _ _) _)) (ownFrom_below (Nat.le_refl _) (by omega)))
    (fun _ _ _ _ _ hs _ _ => hs)
    ⟨⟨⟨_, bO, World.ownsRow_nil _ _ _ _, by simp⟩, bH⟩, hB0⟩
    (fun x a' W => ∃ Bx, w.heap.size + 2 < Bx ∧ Row W Bx #[.int .i64 (x.1 : Int), .int .i64 (x.2 : Int)] 52 ∧ a' = { tmps := #[.int .i64 (lo : Int), .int .i64 (hi : Int), undef, undef, .slice none 0 0, .int .i64 0, .pointer (some ⟨w.heap.size, 0, none⟩), .pointer (some ⟨Bx, 0, none⟩), .int .i64 (lo : Int), .bool false, .bool false, .int .i64 (hi : Int), .int .i64 (lo : Int), .bool false, .bool false, .bool false, .int .i64 (hi : Int), .bool false, .bool false, .int .i64 (lo : Int), .int .i64 (hi : Int), .func (.func 61) #[] #[.pointer (some ⟨w.heap.size + 1, 0, none⟩), .pointer (some ⟨w.heap.size + 1 + 1, 0, none⟩)], av x, undef, undef, undef, undef, undef], defers := [] })
    (fun x a' _ X Y row hs hg hr => by
      obtain ⟨Bx, h1, h2, h3⟩ := hs
      refine ⟨Bx, h1, (hg.block Bx h2.lt (fun e => ?_)).trans h2, h3⟩
      obtain ⟨_, o, ho, hc⟩ := hr Bx e.symm
      rw [show X.heap[Bx]? = _ from h2] at ho; cases ho; cases hc)
    ?assign ?body ?done ?stop
  case assign =>
    rintro l pre x W K ⟨⟨⟨v, b1, r1, n1⟩, bH1⟩, hB1⟩ hK
    have hlt := bH1.lt
    gi_wp2
    exact hK _ _ ((KeepsOthers.alloc _ _).from _) (bH1.alloc _ |>.cell.trans bH1.cell.symm) ⟨⟨⟨v, b1.alloc _, r1.alloc _, n1⟩, bH1.alloc _⟩, hB1.alloc hB1.size _⟩ ⟨W.heap.size, by omega, Row.new W _ _, rfl⟩
  case body =>
    rintro l pre x a' W hl ⟨r, hr⟩ ⟨⟨⟨v, hv, hrow, hnil⟩, bH1⟩, hB⟩ ⟨Bx, hBx, bX, rfl⟩ hlt
    have hc := hv.cell
    have hx0 := bX.cell 0
    have hx1 := bX.cell 1
    gi_wp2_with (gi_at_builtin; refine wpListIn_append_own _ rfl _ _ 62 rfl w.heap.size 52 i0 (.agg #[.int .i64 0, .int .i64 0]) 2 16 Tryd.underlying62 hi0 hz0 hz1 hz2 rfl (by decide) _ _ _ rfl (hrow.alloc _) ⟨W.heap.size, 0, none⟩ 1 1 [.int .i64 (x.1 : Int), .int .i64 (x.2 : Int)] rfl rfl (World.news_of_block (cs := #[.int .i64 (x.1 : Int), .int .i64 (x.2 : Int)]) (t := 52) (fr := (0, 0)) (heap_alloc_new W _)) (by simp [Value.oneCell']) (by simp only [maxLen]; omega) (by omega) (by have := hB.size; simp; omega) ?_; intro v' w1 hown' hgrow _; obtain ⟨g', cap', rfl⟩ := ownsRow_succ hown'; obtain ⟨hv1, hv2, hr2, hk2, hb2⟩ := hv.appended (by decide) hrow hB.size (Nat.le_refl _) hown' hgrow; have hc1 := hv1.cell; have hf1 := hv1.frozen)
    have hne : w.heap.size + 1 + 1 ≠ w.heap.size := by omega
    have bH2 : Boxed (w1.setCell ⟨w.heap.size, 0, none⟩ (.slice (some ⟨g', 0, none⟩) (pre.length + 1) cap')) (w.heap.size + 1 + 1) 3 (.int .i64 (hi : Int)) :=
      (((bH1.alloc _).kept hgrow (bH1.not_row (by decide) hrow)).other hne _)
    refine ⟨hk2.from _, bH2.cell.trans bH1.cell.symm, ⟨⟨_, hv2, ?_, by simp⟩, bH2⟩, hB.trans hb2⟩
    rw [ac_append, List.length_append]
    exact hr2
  case done =>
    rintro D ys W hD rfl ⟨⟨⟨v, hv, hrow, hnil⟩, bH1⟩, hB⟩ hK
    have hc := hv.cell
    gi_wp2
    refine ⟨by simp, .inl ⟨_, _, rfl, run_takeDeferred hK, ?_⟩⟩
    refine ⟨.tuple #[v, .int .i64 0], ?_, v, rfl, ownsRow_putObj hrow _ hK rfl, hnil, hB.trans (belowK_b (w := w) (Nat.le_refl _) W D _ _ (by omega) hK rfl rfl)⟩
    simp [results, Tryd.f31, go_sem]
  case stop =>
    rintro D c pre W _ _ h _
    exact h.elim
end Go.Proofs.YtahkpcbemnfllaaDoor.Cover
