/- ownMark, wide, renewed: their walks. -/
import Derived.Test.YtcenfedmbicofaaDoorMthTops
import Derived.Test.YtcenfedmbicofaaDoorFam
import Derived.Laws.BytesArg
set_option linter.unusedVariables false
set_option linter.unusedSimpArgs false
namespace Go.Proofs.YtcenfedmbicofaaDoor.Mth
open Go.RowKit Go.Proofs.YtcenfedmbicofaaDoor.Base Go.Proofs.YtcenfedmbicofaaDoor.ShaPlain Go.Proofs.YtcenfedmbicofaaDoor.ShaDig Go.Proofs.YtcenfedmbicofaaDoor.TreeHash Go.Proofs.YtcenfedmbicofaaDoor.Strs Go.Proofs.YtcenfedmbicofaaDoor.Mem Go.Proofs.YtcenfedmbicofaaDoor.Fam

/-- The mark of a number. -/
def om (k : Nat) : ByteArray := strOfNums [((97 + k : Nat) : Int)]
theorem om_size (k : Nat) : (om k).size = 1 := son_size _
set_option maxRecDepth 100000 in
set_option maxHeartbeats 2000000 in
theorem ownMark_calls (k : Nat) (hk : k < 10) (w : World) : Calls Tryd.prog 39 #[.int .i64 (k : Int)] w (fun e w' => e = .returned (.string (om k)) ∧ Below w.heap.size w w') := by
  match k, hk with
  | 0, _ =>
    have hr := Row.new w #[.int .u8 97] 5
    have hcv := run_convert_bytes_arg (P := Tryd.prog) (w.alloc (.cells #[.int .u8 97] 5)) 78 5 Tryd.underlying78 Tryd.underlying5 w.heap.size 0 1 1 [97] rfl (fun j hj => (show _ from (match j, hj with | 0, _ => hr.cell 0))) 9 Tryd.underlying9
    have he : strOfNums [97] = om 0 := rfl
    rw [he] at hcv
    generalize om 0 = st at *
    clear he hr
    go_enter Tryd.func39, Tryd.ntmps39
    go_wp2
    go_ret
    exact ⟨rfl, (Below.refl _ w).alloc (Nat.le_refl _) _⟩
  | 1, _ =>
    have hr := Row.new w #[.int .u8 98] 5
    have hcv := run_convert_bytes_arg (P := Tryd.prog) (w.alloc (.cells #[.int .u8 98] 5)) 78 5 Tryd.underlying78 Tryd.underlying5 w.heap.size 0 1 1 [98] rfl (fun j hj => (show _ from (match j, hj with | 0, _ => hr.cell 0))) 9 Tryd.underlying9
    have he : strOfNums [98] = om 1 := rfl
    rw [he] at hcv
    generalize om 1 = st at *
    clear he hr
    go_enter Tryd.func39, Tryd.ntmps39
    go_wp2
    go_ret
    exact ⟨rfl, (Below.refl _ w).alloc (Nat.le_refl _) _⟩
  | 2, _ =>
    have hr := Row.new w #[.int .u8 99] 5
    have hcv := run_convert_bytes_arg (P := Tryd.prog) (w.alloc (.cells #[.int .u8 99] 5)) 78 5 Tryd.underlying78 Tryd.underlying5 w.heap.size 0 1 1 [99] rfl (fun j hj => (show _ from (match j, hj with | 0, _ => hr.cell 0))) 9 Tryd.underlying9
    have he : strOfNums [99] = om 2 := rfl
    rw [he] at hcv
    generalize om 2 = st at *
    clear he hr
    go_enter Tryd.func39, Tryd.ntmps39
    go_wp2
    go_ret
    exact ⟨rfl, (Below.refl _ w).alloc (Nat.le_refl _) _⟩
  | 3, _ =>
    have hr := Row.new w #[.int .u8 100] 5
    have hcv := run_convert_bytes_arg (P := Tryd.prog) (w.alloc (.cells #[.int .u8 100] 5)) 78 5 Tryd.underlying78 Tryd.underlying5 w.heap.size 0 1 1 [100] rfl (fun j hj => (show _ from (match j, hj with | 0, _ => hr.cell 0))) 9 Tryd.underlying9
    have he : strOfNums [100] = om 3 := rfl
    rw [he] at hcv
    generalize om 3 = st at *
    clear he hr
    go_enter Tryd.func39, Tryd.ntmps39
    go_wp2
    go_ret
    exact ⟨rfl, (Below.refl _ w).alloc (Nat.le_refl _) _⟩
  | 4, _ =>
    have hr := Row.new w #[.int .u8 101] 5
    have hcv := run_convert_bytes_arg (P := Tryd.prog) (w.alloc (.cells #[.int .u8 101] 5)) 78 5 Tryd.underlying78 Tryd.underlying5 w.heap.size 0 1 1 [101] rfl (fun j hj => (show _ from (match j, hj with | 0, _ => hr.cell 0))) 9 Tryd.underlying9
    have he : strOfNums [101] = om 4 := rfl
    rw [he] at hcv
    generalize om 4 = st at *
    clear he hr
    go_enter Tryd.func39, Tryd.ntmps39
    go_wp2
    go_ret
    exact ⟨rfl, (Below.refl _ w).alloc (Nat.le_refl _) _⟩
  | 5, _ =>
    have hr := Row.new w #[.int .u8 102] 5
    have hcv := run_convert_bytes_arg (P := Tryd.prog) (w.alloc (.cells #[.int .u8 102] 5)) 78 5 Tryd.underlying78 Tryd.underlying5 w.heap.size 0 1 1 [102] rfl (fun j hj => (show _ from (match j, hj with | 0, _ => hr.cell 0))) 9 Tryd.underlying9
    have he : strOfNums [102] = om 5 := rfl
    rw [he] at hcv
    generalize om 5 = st at *
    clear he hr
    go_enter Tryd.func39, Tryd.ntmps39
    go_wp2
    go_ret
    exact ⟨rfl, (Below.refl _ w).alloc (Nat.le_refl _) _⟩
  | 6, _ =>
    have hr := Row.new w #[.int .u8 103] 5
    have hcv := run_convert_bytes_arg (P := Tryd.prog) (w.alloc (.cells #[.int .u8 103] 5)) 78 5 Tryd.underlying78 Tryd.underlying5 w.heap.size 0 1 1 [103] rfl (fun j hj => (show _ from (match j, hj with | 0, _ => hr.cell 0))) 9 Tryd.underlying9
    have he : strOfNums [103] = om 6 := rfl
    rw [he] at hcv
    generalize om 6 = st at *
    clear he hr
    go_enter Tryd.func39, Tryd.ntmps39
    go_wp2
    go_ret
    exact ⟨rfl, (Below.refl _ w).alloc (Nat.le_refl _) _⟩
  | 7, _ =>
    have hr := Row.new w #[.int .u8 104] 5
    have hcv := run_convert_bytes_arg (P := Tryd.prog) (w.alloc (.cells #[.int .u8 104] 5)) 78 5 Tryd.underlying78 Tryd.underlying5 w.heap.size 0 1 1 [104] rfl (fun j hj => (show _ from (match j, hj with | 0, _ => hr.cell 0))) 9 Tryd.underlying9
    have he : strOfNums [104] = om 7 := rfl
    rw [he] at hcv
    generalize om 7 = st at *
    clear he hr
    go_enter Tryd.func39, Tryd.ntmps39
    go_wp2
    go_ret
    exact ⟨rfl, (Below.refl _ w).alloc (Nat.le_refl _) _⟩
  | 8, _ =>
    have hr := Row.new w #[.int .u8 105] 5
    have hcv := run_convert_bytes_arg (P := Tryd.prog) (w.alloc (.cells #[.int .u8 105] 5)) 78 5 Tryd.underlying78 Tryd.underlying5 w.heap.size 0 1 1 [105] rfl (fun j hj => (show _ from (match j, hj with | 0, _ => hr.cell 0))) 9 Tryd.underlying9
    have he : strOfNums [105] = om 8 := rfl
    rw [he] at hcv
    generalize om 8 = st at *
    clear he hr
    go_enter Tryd.func39, Tryd.ntmps39
    go_wp2
    go_ret
    exact ⟨rfl, (Below.refl _ w).alloc (Nat.le_refl _) _⟩
  | 9, _ =>
    have hr := Row.new w #[.int .u8 106] 5
    have hcv := run_convert_bytes_arg (P := Tryd.prog) (w.alloc (.cells #[.int .u8 106] 5)) 78 5 Tryd.underlying78 Tryd.underlying5 w.heap.size 0 1 1 [106] rfl (fun j hj => (show _ from (match j, hj with | 0, _ => hr.cell 0))) 9 Tryd.underlying9
    have he : strOfNums [106] = om 9 := rfl
    rw [he] at hcv
    generalize om 9 = st at *
    clear he hr
    go_enter Tryd.func39, Tryd.ntmps39
    go_wp2
    go_ret
    exact ⟨rfl, (Below.refl _ w).alloc (Nat.le_refl _) _⟩
/-- A list grown j times by a text: the list itself lies as it lay. -/
structure Wd (w : World) (base : Nat) (v : Value) (xs : List ByteArray) (y : ByteArray) (s : Value) (j : Nat) (W : World) : Prop where
  gr : w.grownBy W v.ownBlock
  ov : Own W base v xs
  os : Own W base s (xs ++ List.replicate j y)
  pl : (∃ g c, v = .slice (some ⟨g, 0, none⟩) xs.length c ∧ s = .slice (some ⟨g, 0, none⟩) (xs.length + j) c) ∨ (∀ b, s.ownBlock = some b → w.heap.size ≤ b)
theorem Wd.start {w : World} {base : Nat} {v : Value} {xs : List ByteArray} (y : ByteArray) (h : Own w base v xs) : Wd w base v xs y v 0 w := by
  refine ⟨World.grownBy.refl w _, h, by rw [List.replicate_zero, List.append_nil]; exact h, ?_⟩
  rcases h.2 with ⟨rfl, _⟩ | ⟨g, cap, cur, rfl, _⟩
  · exact .inr fun b e => by simp [Value.ownBlock] at e
  · exact .inl ⟨g, cap, rfl, rfl⟩
theorem Wd.step {w W w2 : World} {base : Nat} {v s : Value} {xs : List ByteArray} {y : ByteArray} {j : Nat} (h : Wd w base v xs y s j W) (hv : ∀ b, v.ownBlock = some b → b < w.heap.size) {g c : Nat}
    (h1 : Own w2 base (.slice (some ⟨g, 0, none⟩) ((xs ++ List.replicate j y).length + 1) c) ((xs ++ List.replicate j y) ++ [y]))
    (h2 : (s = .slice (some ⟨g, 0, none⟩) (xs ++ List.replicate j y).length c ∧ (W.alloc (.cells #[.string y] 9)).grownBy w2 (some g)) ∨ ((W.alloc (.cells #[.string y] 9)).heap.size ≤ g ∧ Below (W.alloc (.cells #[.string y] 9)).heap.size (W.alloc (.cells #[.string y] 9)) w2)) :
    Wd w base v xs y (.slice (some ⟨g, 0, none⟩) ((xs ++ List.replicate j y).length + 1) c) (j + 1) w2 := by
  have e1 : (xs ++ List.replicate j y) ++ [y] = xs ++ List.replicate (j + 1) y := by rw [List.append_assoc, ← List.replicate_succ']
  have e2 : (xs ++ List.replicate j y).length = xs.length + j := by rw [List.length_append, List.length_replicate]
  rw [e1, e2] at h1
  rw [e2] at h2 ⊢
  have bA : Below W.heap.size W (W.alloc (.cells #[.string y] 9)) := (Below.refl _ W).alloc (Nat.le_refl _) _
  have hsz : (W.alloc (.cells #[.string y] 9)).heap.size = W.heap.size + 1 := World.size_alloc ..
  have hw : w.heap.size ≤ W.heap.size := h.gr.size
  have gA : Grew w (W.alloc (.cells #[.string y] 9)) v.ownBlock := Grew.andBelow h.gr bA
  have oA : Own (W.alloc (.cells #[.string y] 9)) base v xs := h.ov.below bA
  rcases h2 with ⟨hs, hg⟩ | ⟨hg, hb⟩
  · rcases h.pl with ⟨g0, c0, rfl, hs0⟩ | hf
    · rw [hs] at hs0
      simp only [Value.slice.injEq, Option.some.injEq, Addr.mk.injEq] at hs0
      obtain ⟨⟨rfl, _⟩, _, rfl⟩ := hs0
      refine ⟨gA.andThen hg (fun q e => .inr (by rw [← e]; rfl)), own_front h1, h1, .inl ⟨g, c, rfl, by rw [Nat.add_assoc]⟩⟩
    · have hg0 : w.heap.size ≤ g := hf g (by rw [hs]; rfl)
      refine ⟨gA.andThen hg (fun q e => .inl (by injection e with e; omega)), World.ownsRow.kept oA hg ?_, h1, .inr fun b e => ?_⟩
      · cases hq : v.ownBlock with
        | none => exact .inl rfl
        | some b => exact .inr fun e => by injection e with e; have := hv b hq; omega
      · simp only [Value.ownBlock, Option.some.injEq] at e; omega
  · exact ⟨gA.andBelow hb, oA.below hb, h1, .inr fun b e => by simp only [Value.ownBlock, Option.some.injEq] at e; omega⟩
set_option maxHeartbeats 2000000 in
theorem wide_calls (B : Option Addr) (n c base : Nat) (xs : List ByteArray) (y : ByteArray) (w : World) (hO : Own w base (.slice B n c) xs) (hb : base ≤ w.heap.size) (hn : n ≤ 1000000000) :
    Calls Tryd.prog 40 #[.slice B n c, .string y] w (fun e w' => e = .returned (.int .i64 ((n + 64 : Nat) : Int)) ∧ w.grownBy w' (Value.slice B n c).ownBlock ∧ Own w' base (.slice B n c) xs) := by
  have hl := len_of hO
  have HV := Lib.hid (fun b e => Lst.own_lt hO b e)
  have HW0 := Lib.hid (Wd.start y hO)
  have HL := Lib.hid hl
  have HB := Lib.hid hb
  clear hO hl hb
  obtain ⟨v, hv⟩ : ∃ v, Value.slice B n c = v := ⟨_, rfl⟩
  obtain ⟨N2, hN2⟩ : ∃ N2, n + 64 = N2 := ⟨_, rfl⟩
  have HN2 := Lib.hid hN2
  rw [hv] at HV HW0 ⊢
  rw [hN2]
  clear hv hN2
  go_enter Tryd.func40, Tryd.ntmps40
  go_wp2
  go_loopw [0, 5] (fun s i wr => ∃ j : Nat, i = .int .i64 (j : Int) ∧ j ≤ 64 ∧ Hid (Wd w base v xs y s j wr)) (fun _ i _ => 64 - (intOf i).toNat)
  case atStart => exact ⟨0, rfl, by omega, HW0⟩
  case round =>
    clear HW0
    obtain ⟨j, rfl, hj, hr⟩ := hrel
    by_cases hlt : j < 64
    · have j1 : (j : Int) < 64 := by omega
      have hlen : (xs ++ List.replicate j y).length + 1 ≤ 8796093022208 := by rw [List.length_append, List.length_replicate, HL.out]; omega
      have HLEN := Lib.hid hlen
      have HST : Hid (∀ g2 c2 w2, _ → _ → _) := Lib.hid (fun g2 c2 w2 => hr.out.step HV.out (g := g2) (c := c2) (w2 := w2))
      have HOS := Lib.hid (hr.out.os.below ((Below.refl _ wr).alloc (Nat.le_refl _) (.cells #[.string y] 9)))
      have HNB := Lib.hid (heap_alloc_new wr (.cells #[.string y] 9))
      have HBS : Hid (base ≤ (wr.alloc (.cells #[.string y] 9)).heap.size) := Lib.hid (by rw [World.size_alloc]; have := hr.out.gr.size; have := HB.out; omega)
      clear hlen hr
      generalize xs ++ List.replicate j y = T at *
      go_wp2_with (at_builtin; refine wpList_app rfl (.tmp 10) (.tmp 12) rfl base _ _ y wr.heap.size rfl rfl HOS.out HNB.out HBS.out HLEN.out ?_; intro g2 c2 w2 q1 q2; have HN := Lib.hid (HST.out g2 c2 w2 q1 q2); clear q1 q2)
      go_roundw
      case rel => exact ⟨j + 1, by go_num, by omega, HN⟩
      case measure => simp only [intOf]; omega
    · obtain rfl : j = 64 := by omega
      obtain ⟨B2, c2, e2, _, _⟩ := hr.out.os.shape
      have e3 : (xs ++ List.replicate 64 y).length = N2 := by rw [List.length_append, List.length_replicate, HL.out, HN2.out]
      rw [e3] at e2
      subst e2
      have HR := Lib.hid (And.intro hr.out.gr hr.out.ov)
      clear hr e3
      go_wp2
      go_ret
      exact ⟨rfl, HR.out.1, HR.out.2⟩
end Go.Proofs.YtcenfedmbicofaaDoor.Mth
