/- Rows of whatever elements that a call owns, families of them; what apart, asked and the law hold while they fill, grow and look. -/
import Derived.Test.YtahkpcbemnfllaaDoorMerge3
import Derived.Laws.BytesArg
import Derived.Deep.RegionHeld3
set_option linter.unusedVariables false
set_option linter.unusedSimpArgs false
namespace Go.Proofs.YtahkpcbemnfllaaDoor.Gen
open Go.RowKit Go.Proofs.YtahkpcbemnfllaaDoor.Base Go.Proofs.YtahkpcbemnfllaaDoor.Mem Go.Proofs.YtahkpcbemnfllaaDoor.Comp
open Go.Proofs.YtahkpcbemnfllaaDoor.Lst (Kp own_below own_lt own_base own_kp own_down)

theorem ne_of_type {w : World} {a b : Nat} {cs cs' : Array Value} {t t' : TypeId} (h : Row w a cs t) (h' : Row w b cs' t') (hn : t ≠ t') : a ≠ b := fun e => by
  subst e
  unfold Row at h h'
  rw [h] at h'
  simp only [Option.some.injEq, Obj.cells.injEq] at h'
  exact hn h'.2.1
theorem own_row {W : World} {base E g n s : Nat} {v : Value} {cs : List Value} (h : W.ownsRow base E s v n cs) (e : v.ownBlock = some g) : ∃ c, Row W g c E := by
  rcases h.2 with ⟨rfl, _⟩ | ⟨g', cap, cur, rfl, hb, hh, _⟩
  · simp [Value.ownBlock] at e
  · simp only [Value.ownBlock, Option.some.injEq] at e
    subst e
    exact ⟨cur, hh⟩
/-- What is known of an element's type. -/
structure El (E : TypeId) (s by_ : Nat) (z : Value) : Prop where
  info : (Tryd.prog.info? E).map (fun i => (i.zero, i.size, i.bytes)) = some (some z, s, by_)
  zs : z.cells.size = s
  sp : 0 < s
  bp : 0 < by_
theorem El.got {E : TypeId} {s by_ : Nat} {z : Value} (h : El E s by_ z) : ∃ i, Tryd.prog.info? E = some i ∧ i.zero = some z ∧ i.size = s ∧ i.bytes = by_ := by
  have h := h.info
  cases hq : Tryd.prog.info? E with
  | none => rw [hq] at h; exact absurd h (by simp)
  | some i => rw [hq] at h; simp at h; exact ⟨i, rfl, h.1, h.2.1, h.2.2⟩
/-- append: the new lies behind in the same row, or all has moved and nothing that was there is touched. -/
theorem run_appG {W : World} (t ty E : TypeId) (s by_ : Nat) (z : Value) (ht : Tryd.prog.underlying t = some (.slice E)) (he : El E s by_ z) (base : Nat) (v : Value) (n m : Nat) (xs ys : List Value) (b : Nat) (HO : W.ownsRow base E s v n xs)
    (hb : W.heap[b]? = some (.cells ys.toArray E (0, 0))) (hl : ys.length = m * s) (h1 : ∀ u ∈ ys, u.oneCell' = true) (hm : 0 < m) (hbase : base ≤ W.heap.size) (hn : (n + m) * by_ ≤ 140737488355328) :
    ∃ g c w1, (Builtin.append_ #[t, t] ty #[v, .slice (some ⟨b, 0, none⟩) m m]).run Tryd.prog W = .ok (.slice (some ⟨g, 0, none⟩) (n + m) c) w1 ∧ w1.ownsRow base E s (.slice (some ⟨g, 0, none⟩) (n + m) c) (n + m) (xs ++ ys) ∧
      ((v = .slice (some ⟨g, 0, none⟩) n c ∧ W.grownBy w1 (some g)) ∨ (W.heap.size ≤ g ∧ Below W.heap.size W w1)) := by
  obtain ⟨i, hi, hz, hsz, hby⟩ := he.got
  have hnm : n + m ≤ 140737488355328 := Nat.le_trans (Nat.le_mul_of_pos_right _ he.bp) hn
  have hn1 : ∀ (j : Nat) u, ys[j]? = some u → W.cell? ((⟨b, 0, none⟩ : Addr).add j) = some u := World.news_of_block (cs := ys.toArray) hb
  obtain ⟨g, c, w1, hr, h2, h3, h4, h5⟩ := run_append_lies (P := Tryd.prog) W t ty base E i z s by_ ht hi hz hsz hby he.zs he.sp v n xs HO ⟨b, 0, none⟩ m m ys hl hn1 h1 hm (by simp only [maxLen]; omega) hn hbase W.heap.size rfl
  refine ⟨g, c, w1, hr, h2, ?_⟩
  rcases HO.2 with ⟨rfl, hn⟩ | ⟨g0, cap, cur, rfl, hbg, hg, hnc, hcm, hcs, htake⟩
  · right
    rcases h4 with h4 | h4
    · simp [Value.ownBlock] at h4
    · exact ⟨by omega, Grew.below h3⟩
  · by_cases hroom : n + m ≤ cap
    · left
      have hfit : n * i.size + ys.length ≤ cur.size := by rw [hl, hcs, hsz, ← Nat.add_mul]; exact Nat.mul_le_mul_right _ hroom
      have hr2 := run_append_room (P := Tryd.prog) W t ty E i ht hi g0 n cap cur hg ⟨b, 0, none⟩ m m ys (by rw [hsz]; exact hl) hn1 h1 hroom hfit
      rw [hr2] at hr
      simp only [Result.ok.injEq, Value.slice.injEq, Option.some.injEq, Addr.mk.injEq] at hr
      obtain ⟨⟨⟨rfl, _⟩, _, rfl⟩, _⟩ := hr
      exact ⟨rfl, h3⟩
    · right
      have holds : ∀ j u, xs[j]? = some u → W.cell? ((⟨g0, 0, none⟩ : Addr).add j) = some u := World.ownsRow.cells (g := g0) HO rfl
      have hr2 := run_append_grow (P := Tryd.prog) W t ty E i z ht hi hz ⟨g0, 0, none⟩ n cap xs (by rw [hsz]; exact HO.1) holds ⟨b, 0, none⟩ m m ys (by rw [hsz]; exact hl) hn1 (by omega) (by omega) (growslice_fits (by omega) (by rw [hby]; exact hn))
      rw [hr2] at hr
      simp only [Result.ok.injEq, Value.slice.injEq, Option.some.injEq, Addr.mk.injEq] at hr
      obtain ⟨⟨⟨rfl, _⟩, _, _⟩, rfl⟩ := hr
      exact ⟨Nat.le_refl _, ((Below.refl _ W).drew).alloc (Nat.le_refl _) _⟩
/-- The front of a row that is owned. -/
theorem own_front {w : World} {base E s g n m c : Nat} {xs ys : List Value} (h : w.ownsRow base E s (.slice (some ⟨g, 0, none⟩) (n + m) c) (n + m) (xs ++ ys)) (hl : xs.length = n * s) : w.ownsRow base E s (.slice (some ⟨g, 0, none⟩) n c) n xs := by
  refine ⟨hl, ?_⟩
  rcases h.2 with ⟨h0, _⟩ | ⟨g', cap, cur, e, hb, hh, hn, hmx, hs, ht⟩
  · cases h0
  · simp only [Value.slice.injEq, Option.some.injEq, Addr.mk.injEq] at e
    obtain ⟨⟨rfl, _⟩, _, rfl⟩ := e
    refine .inr ⟨g, c, cur, rfl, hb, hh, by omega, hmx, hs, ?_⟩
    have h2 := congrArg (List.take (n * s)) ht
    rw [List.take_take, Nat.min_eq_left (by rw [Nat.add_mul]; omega), List.take_left' hl] at h2
    exact h2
theorem elS : El 9 1 16 (.string ⟨#[]⟩) := ⟨by kernel_rfl, rfl, by omega, by omega⟩
theorem elM : El 54 3 32 (.agg #[.int .i64 0, .int .i64 0, .string ⟨#[]⟩]) := ⟨by kernel_rfl, rfl, by omega, by omega⟩
theorem elSS : El 22 1 24 (.slice none 0 0) := ⟨by kernel_rfl, rfl, by omega, by omega⟩
theorem elMM : El 40 1 24 (.slice none 0 0) := ⟨by kernel_rfl, rfl, by omega, by omega⟩
/-! ### families -/
structure Ent where
  E : TypeId
  s : Nat
  v : Value
  n : Nat
  φ : List Value → Prop
/-- The entry's row holds what it should. -/
def Ent.ok (e : Ent) (base : Nat) (W : World) : Prop := ∃ cs, W.ownsRow base e.E e.s e.v e.n cs ∧ e.φ cs
structure Gf (w0 : World) (N : Nat) (F : Nat → Ent) (W : World) : Prop where
  bel : Below w0.heap.size w0 W
  own : ∀ i, i < N → (F i).ok w0.heap.size W
  ap : ∀ i j, i < N → j < N → i ≠ j → ∀ b, (F i).v.ownBlock = some b → (F j).v.ownBlock ≠ some b
variable {w0 W W' : World} {N : Nat} {F : Nat → Ent}
theorem Gf.start (h : Below w0.heap.size w0 W) (F : Nat → Ent) : Gf w0 0 F W := ⟨h, fun i hi => absurd hi (by omega), fun i j hi => absurd hi (by omega)⟩
theorem Gf.call (h : Gf w0 N F W) (b : Below W.heap.size W W') : Gf w0 N F W' := ⟨h.bel.trans (b.mono h.bel.size), fun i hi => by
  obtain ⟨cs, h1, h2⟩ := h.own i hi
  exact ⟨cs, own_below h1 b, h2⟩, h.ap⟩
theorem Gf.lt (h : Gf w0 N F W) {i : Nat} (hi : i < N) {b : Nat} (e : (F i).v.ownBlock = some b) : b < W.heap.size := by
  obtain ⟨cs, h1, _⟩ := h.own i hi
  exact own_lt h1 b e
theorem Gf.ge (h : Gf w0 N F W) {i : Nat} (hi : i < N) {b : Nat} (e : (F i).v.ownBlock = some b) : w0.heap.size ≤ b := by
  obtain ⟨cs, h1, _⟩ := h.own i hi
  exact own_base h1 b e
theorem Gf.as (h : Gf w0 N F W) (F' : Nat → Ent) (he : ∀ i, i < N → (F' i).v = (F i).v ∧ ((F i).ok w0.heap.size W → (F' i).ok w0.heap.size W)) : Gf w0 N F' W :=
  ⟨h.bel, fun i hi => (he i hi).2 (h.own i hi), fun i j hi hj hij b e1 e2 => h.ap i j hi hj hij b (by rw [← (he i hi).1]; exact e1) (by rw [← (he j hj).1]; exact e2)⟩
/-- Some of the entries, in whatever order. -/
theorem Gf.pick (h : Gf w0 N F W) (M : Nat) (σ : Nat → Nat) (hs : ∀ i, i < M → σ i < N) (inj : ∀ i j, i < M → j < M → σ i = σ j → i = j) : Gf w0 M (fun i => F (σ i)) W :=
  ⟨h.bel, fun i hi => h.own _ (hs i hi), fun i j hi hj hij => h.ap _ _ (hs i hi) (hs j hj) (fun e => hij (inj i j hi hj e))⟩
theorem Gf.add (h : Gf w0 N F W) (b : Below W.heap.size W W') (e : Ent) (o : e.ok W.heap.size W') : Gf w0 (N + 1) (fun i => if i = N then e else F i) W' := by
  have hs := h.bel.size
  obtain ⟨cs, o1, o2⟩ := o
  refine ⟨h.bel.trans (b.mono hs), fun i hi => ?_, fun i j hi hj hij q e1 e2 => ?_⟩
  · by_cases hin : i = N
    · subst hin
      simp only [if_true]
      exact ⟨cs, own_down o1 hs, o2⟩
    · simp only [if_neg hin]
      exact (h.call b).own i (by omega)
  · by_cases hin : i = N
    · subst hin
      simp only [if_true] at e1
      rw [if_neg (by omega)] at e2
      have := h.lt (show j < i by omega) e2
      have := own_base o1 q e1
      omega
    · simp only [if_neg hin] at e1
      by_cases hjn : j = N
      · subst hjn
        simp only [if_true] at e2
        have := h.lt (show i < j by omega) e1
        have := own_base o1 q e2
        omega
      · simp only [if_neg hjn] at e2
        exact h.ap i j (by omega) (by omega) hij q e1 e2
/-- One entry's row has been written, or has grown beyond itself. -/
theorem Gf.put (h : Gf w0 N F W) {k : Nat} (hk : k < N) (g : W.grownBy W' (F k).v.ownBlock) (φ' : List Value → Prop) (o : ({ F k with φ := φ' } : Ent).ok w0.heap.size W') : Gf w0 N (fun i => if i = k then { F k with φ := φ' } else F i) W' := by
  have hv : ∀ i, ((fun i => if i = k then { F k with φ := φ' } else F i) i : Ent).v = (F i).v := fun i => by
    by_cases hik : i = k
    · subst hik; simp
    · simp [hik]
  refine ⟨h.bel.grown g h.bel.size (fun b e => h.ge hk e), fun i hi => ?_, fun i j hi hj hij b e1 e2 => h.ap i j hi hj hij b (by rw [← hv i]; exact e1) (by rw [← hv j]; exact e2)⟩
  by_cases hik : i = k
  · subst hik; simp only [if_true]; exact o
  · simp only [if_neg hik]
    obtain ⟨cs, h1, h2⟩ := h.own i hi
    refine ⟨cs, World.ownsRow.kept h1 g ?_, h2⟩
    cases hq : (F i).v.ownBlock with
    | none => exact .inl rfl
    | some b => exact .inr fun e => h.ap i k hi hk hik b hq e.symm
/-- A block of another type than all rows has been written. -/
theorem Gf.other (h : Gf w0 N F W) {q : Nat} (g : W.grownBy W' (some q)) (hq : w0.heap.size ≤ q) {cs : Array Value} {t : TypeId} (r : Row W q cs t) (ht : ∀ i, i < N → t ≠ (F i).E) : Gf w0 N F W' := by
  refine ⟨h.bel.grown g h.bel.size (fun b e => by injection e with e; omega), fun i hi => ?_, h.ap⟩
  obtain ⟨cs, h1, h2⟩ := h.own i hi
  refine ⟨cs, World.ownsRow.kept h1 g ?_, h2⟩
  cases hv : (F i).v.ownBlock with
  | none => exact .inl rfl
  | some b =>
    refine .inr fun e => ?_
    injection e with e
    obtain ⟨c, r2⟩ := own_row h1 hv
    exact ne_of_type r r2 (ht i hi) e.symm
end Go.Proofs.YtahkpcbemnfllaaDoor.Gen
namespace Go.Proofs.YtahkpcbemnfllaaDoor.Gen
open Go.RowKit Go.Proofs.YtahkpcbemnfllaaDoor.Base Go.Proofs.YtahkpcbemnfllaaDoor.Mem Go.Proofs.YtahkpcbemnfllaaDoor.Comp
open Go.Proofs.YtahkpcbemnfllaaDoor.Lst (Kp own_below own_lt own_base own_kp own_down)

/-- Every text of the slice is this one. -/
def Full1 (w : World) (A : Option Addr) (n : Nat) (y : ByteArray) : Prop := 0 < n → ∃ ad, A = some ad ∧ ad.block < w.heap.size ∧ ∀ i, i < n → w.cell? (ad.add i) = some (.string y)
/-- Every node of the slice has this hash. -/
def Full3 (w : World) (A : Option Addr) (n : Nat) (y : ByteArray) : Prop := 0 < n → ∃ ad, A = some ad ∧ ad.block < w.heap.size ∧ ∀ i, i < n → w.cell? (ad.add (i * 3 + 2)) = some (.string y)
theorem Full1.keep {w wx : World} {A : Option Addr} {n : Nat} {y : ByteArray} (h : Full1 w A n y) (hs : w.heap.size ≤ wx.heap.size) (hk : ∀ ad, A = some ad → ad.block < w.heap.size → wx.heap[ad.block]? = w.heap[ad.block]?) : Full1 wx A n y := fun hn => by
  obtain ⟨ad, rfl, hb, hc⟩ := h hn
  refine ⟨ad, rfl, by omega, fun i hi => (World.cell?_of_block (by rw [Lst.add_block]; exact hk ad rfl hb)).trans (hc i hi)⟩
theorem Full3.keep {w wx : World} {A : Option Addr} {n : Nat} {y : ByteArray} (h : Full3 w A n y) (hs : w.heap.size ≤ wx.heap.size) (hk : ∀ ad, A = some ad → ad.block < w.heap.size → wx.heap[ad.block]? = w.heap[ad.block]?) : Full3 wx A n y := fun hn => by
  obtain ⟨ad, rfl, hb, hc⟩ := h hn
  refine ⟨ad, rfl, by omega, fun i hi => (World.cell?_of_block (by rw [Lst.add_block]; exact hk ad rfl hb)).trans (hc i hi)⟩
theorem Full1.below {w wx : World} {A : Option Addr} {n : Nat} {y : ByteArray} (h : Full1 w A n y) (b : Below w.heap.size w wx) : Full1 wx A n y := h.keep b.size (fun ad _ hb => b.block _ hb)
theorem Full3.below {w wx : World} {A : Option Addr} {n : Nat} {y : ByteArray} (h : Full3 w A n y) (b : Below w.heap.size w wx) : Full3 wx A n y := h.keep b.size (fun ad _ hb => b.block _ hb)
set_option maxHeartbeats 1000000 in
theorem marked_calls (A B : Option Addr) (n c m d : Nat) (y : ByteArray) (w : World) (h1 : Full1 w A n y) (h3 : Full3 w B m y) (hn : n ≤ 1000000) (hm : m ≤ 1000000) :
    Calls Tryd.prog 25 #[.slice A n c, .slice B m d, .string y] w (fun e w' => e = .returned (.bool true) ∧ w = w') := by
  have H1 := Lib.hid h1
  have H3 := Lib.hid h3
  clear h1 h3
  go_enter Tryd.func25, Tryd.ntmps25
  go_wp2
  go_loopw [7] (fun s7 wr => ∃ j : Nat, s7 = .int .i64 (j : Int) ∧ j ≤ n ∧ Hid (w = wr)) (fun s7 _ => n - (intOf s7).toNat)
  case atStart => exact ⟨0, rfl, Nat.zero_le _, by first | exact Lib.hid rfl | exact Lib.hid trivial⟩
  case round =>
    obtain ⟨j, rfl, hj, hw⟩ := hrel
    obtain rfl := hw.out
    clear hw
    by_cases hlt : j < n
    · obtain ⟨ad, rfl, _, hc⟩ := H1.out (by omega)
      have cj := hc j hlt
      have j0 : (0 : Int) ≤ (j : Int) := by omega
      have j1 : (j : Int) < (n : Int) := by omega
      clear hc
      go_wp2
      go_roundw
      case rel => exact ⟨j + 1, by go_num, by omega, by first | exact Lib.hid rfl | exact Lib.hid trivial⟩
      case measure => simp only [intOf]; omega
    · obtain rfl : j = n := by omega
      go_wp2
      go_loopw [8] (fun s8 wr => ∃ i : Nat, s8 = .int .i64 (i : Int) ∧ i ≤ m ∧ Hid (w = wr)) (fun s8 _ => m - (intOf s8).toNat)
      case atStart => exact ⟨0, rfl, Nat.zero_le _, by first | exact Lib.hid rfl | exact Lib.hid trivial⟩
      case round =>
        obtain ⟨i, rfl, hi, hw⟩ := hrel
        obtain rfl := hw.out
        clear hw
        by_cases hli : i < m
        · obtain ⟨ad, rfl, _, hc⟩ := H3.out (by omega)
          have ci := hc i hli
          rw [← Lst.add_add] at ci
          obtain ⟨X, hX⟩ : ∃ X, ad.add (i * 3) = X := ⟨_, rfl⟩
          rw [hX] at ci
          have ci2 : w.cell? ⟨X.block, X.off + 2, none⟩ = some (.string y) := ci
          have i0 : (0 : Int) ≤ (i : Int) := by omega
          have i1 : (i : Int) < (m : Int) := by omega
          clear hc ci
          go_wp2
          go_roundw
          case rel => exact ⟨i + 1, by go_num, by omega, by first | exact Lib.hid rfl | exact Lib.hid trivial⟩
          case measure => simp only [intOf]; omega
        · obtain rfl : i = m := by omega
          go_wp2
          go_ret
          exact ⟨rfl, rfl⟩
/-- The letter of a number, and the mark. -/
def om (k : Nat) : ByteArray := strOfNums [(97 : Int) + (k : Int)]
abbrev mkA (k : Nat) : ByteArray := (⟨#[109, 97, 114, 107]⟩ : ByteArray) ++ om k
theorem om_size (k : Nat) : (om k).size = 1 := son_size _
theorem u8_of (k : Nat) (hk : k < 10) : IntKind.u8.wrap ((97 : Int) + (k : Int)) = (97 : Int) + (k : Int) := by
  match k, hk with
  | 0, _ | 1, _ | 2, _ | 3, _ | 4, _ | 5, _ | 6, _ | 7, _ | 8, _ | 9, _ => decide
theorem conv_int (c : Int) (w : World) : (convert 68 9 (.slice (some ⟨w.heap.size, 0, none⟩) 1 1)).run Tryd.prog (w.alloc (.cells #[.int .u8 c] 5)) = .ok (.string (strOfNums [c])) (w.alloc (.cells #[.int .u8 c] 5)) := by
  have hr := (Row.new w #[.int .u8 c] 5).cell 0
  refine run_convert_bytes_arg (P := Tryd.prog) (w.alloc (.cells #[.int .u8 c] 5)) 68 5 Tryd.underlying68 Tryd.underlying5 w.heap.size 0 1 1 [c] rfl (fun j hj => ?_) 9 Tryd.underlying9
  obtain rfl : j = 0 := by omega
  exact hr
theorem conv_of (k : Nat) (w : World) : (convert 68 9 (.slice (some ⟨w.heap.size, 0, none⟩) 1 1)).run Tryd.prog (w.alloc (.cells #[.int .u8 ((97 : Int) + (k : Int))] 5)) = .ok (.string (om k)) (w.alloc (.cells #[.int .u8 ((97 : Int) + (k : Int))] 5)) := conv_int _ w
set_option maxRecDepth 100000 in
set_option maxHeartbeats 1000000 in
theorem full_calls (A B : Option Addr) (n c m d k : Nat) (w : World) (hk : k < 10) (h1 : Full1 w A n (mkA k)) (h3 : Full3 w B m (mkA k)) (hn : n ≤ 1000000) (hm : m ≤ 1000000) :
    Calls Tryd.prog 59 #[.slice A n c, .slice B m d, .int .i64 (k : Int)] w (fun e w' => e = .returned (.bool true) ∧ Below w.heap.size w w') := by
  have hu := u8_of k hk
  have hcv := conv_of k w
  obtain ⟨q, hq⟩ : ∃ q : Int, (97 : Int) + (k : Int) = q := ⟨_, rfl⟩
  rw [hq] at hu hcv
  have hb : Below w.heap.size w (w.alloc (.cells #[.int .u8 q] 5)) := (Below.refl _ w).alloc (Nat.le_refl _) _
  have HM := Lib.hid (marked_calls A B n c m d (mkA k) _ (h1.below hb) (h3.below hb) hn hm)
  have HB := Lib.hid hb
  have hom := om_size k
  have hcat : ¬ (9223372036854775807 : Nat) < (⟨#[109, 97, 114, 107]⟩ : ByteArray).size + (om k).size := by rw [hom]; decide
  have hq0 : (0 : Int) ≤ q := by omega
  have hq1 : q < 256 := by omega
  clear hb h1 h3
  go_enter Tryd.func59, Tryd.ntmps59
  go_wp2_with fail
  refine HM.out.mono ?_
  rintro e _ ⟨rfl, rfl⟩
  go_wp2
  go_ret
  exact ⟨rfl, HB.out⟩
end Go.Proofs.YtahkpcbemnfllaaDoor.Gen
namespace Go.Proofs.YtahkpcbemnfllaaDoor.Gen
open Go.RowKit Go.Proofs.YtahkpcbemnfllaaDoor.Base Go.Proofs.YtahkpcbemnfllaaDoor.Mem Go.Proofs.YtahkpcbemnfllaaDoor.Comp
open Go.Proofs.YtahkpcbemnfllaaDoor.Lst (Kp own_below own_lt own_base own_kp own_down)

/-- The first j texts are y. -/
def fh (y : ByteArray) (j : Nat) (cs : List Value) : Prop := ∀ i, i < j → cs[i]? = some (.string y)
/-- The first j nodes have the hash y. -/
def fm (y : ByteArray) (j : Nat) (cs : List Value) : Prop := ∀ i, i < j → cs[i * 3 + 2]? = some (.string y)
theorem own_block {W : World} {base E s n m c : Nat} {B : Option Addr} {cs : List Value} (h : W.ownsRow base E s (.slice B n c) m cs) (hm : 0 < m) : ∃ g, B = some ⟨g, 0, none⟩ ∧ n = m ∧ base ≤ g ∧ g < W.heap.size := by
  rcases h.2 with ⟨h0, h1⟩ | ⟨g, cap, cur, e, hb, hh, _⟩
  · omega
  · simp only [Value.slice.injEq] at e
    exact ⟨g, e.1, e.2.1, hb, (Array.getElem?_eq_some_iff.1 hh).1⟩
theorem own_slice {W : World} {base E s n : Nat} {v : Value} {cs : List Value} (h : W.ownsRow base E s v n cs) : ∃ B c, v = .slice B n c ∧ n ≤ c := by
  rcases h.2 with ⟨rfl, h1⟩ | ⟨g, cap, cur, e, hb, hh, hnc, _⟩
  · exact ⟨none, 0, by rw [h1], by omega⟩
  · exact ⟨_, cap, e, hnc⟩
theorem full1_of {W : World} {base E n c : Nat} {B : Option Addr} {cs : List Value} {y : ByteArray} (h : W.ownsRow base E 1 (.slice B n c) n cs) (hf : fh y n cs) : Full1 W B n y := fun hn => by
  obtain ⟨g, rfl, _, _, hg⟩ := own_block h hn
  refine ⟨_, rfl, hg, fun i hi => ?_⟩
  have e : (⟨g, 0, none⟩ : Addr).add i = ⟨g, i, none⟩ := Arr.add_plain g i 0 |>.trans (by rw [Nat.zero_add])
  rw [e, h.cellAt i (by omega)]
  exact hf i hi
theorem full3_of {W : World} {base E n c : Nat} {B : Option Addr} {cs : List Value} {y : ByteArray} (h : W.ownsRow base E 3 (.slice B n c) n cs) (hf : fm y n cs) : Full3 W B n y := fun hn => by
  obtain ⟨g, rfl, _, _, hg⟩ := own_block h hn
  refine ⟨_, rfl, hg, fun i hi => ?_⟩
  have e : (⟨g, 0, none⟩ : Addr).add (i * 3 + 2) = ⟨g, i * 3 + 2, none⟩ := Arr.add_plain g (i * 3 + 2) 0 |>.trans (by rw [Nat.zero_add])
  rw [e, h.cellAt (i * 3 + 2) (by omega)]
  exact hf i hi
theorem fill1 {W : World} {base E n c g j : Nat} {cs : List Value} {y : ByteArray} (h : W.ownsRow base E 1 (.slice (some ⟨g, 0, none⟩) n c) n cs) (hf : fh y j cs) (hj : j < n) :
    (∃ u, W.cell? ⟨g, j, none⟩ = some u) ∧ W.frozen? ⟨g, j, none⟩ = false ∧ (W.setCell ⟨g, j, none⟩ (.string y)).ownsRow base E 1 (.slice (some ⟨g, 0, none⟩) n c) n (cs.set j (.string y)) ∧ fh y (j + 1) (cs.set j (.string y)) ∧ W.grownBy (W.setCell ⟨g, j, none⟩ (.string y)) (some g) := by
  have hl : cs.length = n := by have := h.1; omega
  obtain ⟨h1, h2⟩ := h.stored j (.string y)
  refine ⟨⟨cs[j]'(by omega), by rw [h.cellAt j (by omega), List.getElem?_eq_getElem]⟩, h.frozenAt j, h1, fun i hi => ?_, h2⟩
  rw [List.getElem?_set]
  by_cases hij : j = i
  · subst hij; rw [if_pos rfl, if_pos (by omega)]
  · rw [if_neg hij]; exact hf i (by omega)
theorem fill3 {W : World} {base E n c g j : Nat} {cs : List Value} {y : ByteArray} (h : W.ownsRow base E 3 (.slice (some ⟨g, 0, none⟩) n c) n cs) (hf : fm y j cs) (hj : j < n) :
    ((∃ u, W.cell? ⟨g, j * 3, none⟩ = some u) ∧ (∃ u, W.cell? ⟨g, j * 3 + 1, none⟩ = some u) ∧ (∃ u, W.cell? ⟨g, j * 3 + 2, none⟩ = some u)) ∧ (∀ q, W.frozen? ⟨g, q, none⟩ = false) ∧
      ∃ cs', (((W.setCell ⟨g, j * 3, none⟩ (.int .i64 0)).setCell ⟨g, j * 3 + 1, none⟩ (.int .i64 0)).setCell ⟨g, j * 3 + 2, none⟩ (.string y)).ownsRow base E 3 (.slice (some ⟨g, 0, none⟩) n c) n cs' ∧ fm y (j + 1) cs' ∧ W.grownBy (((W.setCell ⟨g, j * 3, none⟩ (.int .i64 0)).setCell ⟨g, j * 3 + 1, none⟩ (.int .i64 0)).setCell ⟨g, j * 3 + 2, none⟩ (.string y)) (some g) := by
  have hl : cs.length = n * 3 := h.1
  obtain ⟨h1, g1⟩ := h.stored (j * 3) (.int .i64 0)
  obtain ⟨h2, g2⟩ := h1.stored (j * 3 + 1) (.int .i64 0)
  obtain ⟨h3, g3⟩ := h2.stored (j * 3 + 2) (.string y)
  have cell : ∀ q, q < n * 3 → ∃ u, W.cell? ⟨g, q, none⟩ = some u := fun q hq => ⟨cs[q]'(by omega), by rw [h.cellAt q hq, List.getElem?_eq_getElem]⟩
  refine ⟨⟨cell _ (by omega), cell _ (by omega), cell _ (by omega)⟩, h.frozenAt, _, h3, fun i hi => ?_, (g1.trans g2).trans g3⟩
  rw [List.getElem?_set]
  by_cases hij : j * 3 + 2 = i * 3 + 2
  · rw [if_pos hij, if_pos (by rw [List.length_set, List.length_set]; omega)]
  · rw [if_neg hij, List.getElem?_set, if_neg (by omega), List.getElem?_set, if_neg (by omega)]
    exact hf i (by omega)
abbrev upd (F : Nat → Ent) (k : Nat) (φ : List Value → Prop) : Nat → Ent := fun i => if i = k then { F k with φ := φ } else F i
section
variable {w0 W : World} {N k j n c : Nat} {F : Nat → Ent} {B : Option Addr} {y : ByteArray}
/-- One text more. -/
theorem Gf.fillH (h : Gf w0 N F W) (hk : k < N) (hs : (F k).s = 1) (hv : (F k).v = .slice B n c) (hn : (F k).n = n) (hφ : ∀ cs, (F k).φ cs → fh y j cs) (hj : j < n) :
    ∃ g, B = some ⟨g, 0, none⟩ ∧ (∃ cs, Row W g cs (F k).E) ∧ (∃ u, W.cell? ⟨g, j, none⟩ = some u) ∧ W.frozen? ⟨g, j, none⟩ = false ∧ Gf w0 N (upd F k (fh y (j + 1))) (W.setCell ⟨g, j, none⟩ (.string y)) := by
  obtain ⟨cs, ho, hp⟩ := h.own k hk
  rw [hs, hv, hn] at ho
  obtain ⟨g, rfl, _, _, _⟩ := own_block ho (by omega)
  obtain ⟨c1, c2, o1, f1, g1⟩ := fill1 ho (hφ cs hp) hj
  refine ⟨g, rfl, own_row ho rfl, c1, c2, h.put hk (by rw [hv]; exact g1) _ ⟨_, ?_, f1⟩⟩
  show World.ownsRow _ _ (F k).E (F k).s (F k).v (F k).n _
  rw [hs, hv, hn]; exact o1
/-- One node more. -/
theorem Gf.fillM (h : Gf w0 N F W) (hk : k < N) (hs : (F k).s = 3) (hv : (F k).v = .slice B n c) (hn : (F k).n = n) (hφ : ∀ cs, (F k).φ cs → fm y j cs) (hj : j < n) :
    ∃ g, B = some ⟨g, 0, none⟩ ∧ (∃ cs, Row W g cs (F k).E) ∧ ((∃ u, W.cell? ⟨g, j * 3, none⟩ = some u) ∧ (∃ u, W.cell? ⟨g, j * 3 + 1, none⟩ = some u) ∧ (∃ u, W.cell? ⟨g, j * 3 + 2, none⟩ = some u)) ∧ (∀ q, W.frozen? ⟨g, q, none⟩ = false) ∧
      Gf w0 N (upd F k (fm y (j + 1))) (((W.setCell ⟨g, j * 3, none⟩ (.int .i64 0)).setCell ⟨g, j * 3 + 1, none⟩ (.int .i64 0)).setCell ⟨g, j * 3 + 2, none⟩ (.string y)) := by
  obtain ⟨cs, ho, hp⟩ := h.own k hk
  rw [hs, hv, hn] at ho
  obtain ⟨g, rfl, _, _, _⟩ := own_block ho (by omega)
  obtain ⟨c1, c2, cs', o1, f1, g1⟩ := fill3 ho (hφ cs hp) hj
  refine ⟨g, rfl, own_row ho rfl, c1, c2, h.put hk (by rw [hv]; exact g1) _ ⟨_, ?_, f1⟩⟩
  show World.ownsRow _ _ (F k).E (F k).s (F k).v (F k).n _
  rw [hs, hv, hn]; exact o1
theorem Gf.full1 (h : Gf w0 N F W) (hk : k < N) (hs : (F k).s = 1) (hv : (F k).v = .slice B n c) (hn : (F k).n = n) (hφ : ∀ cs, (F k).φ cs → fh y n cs) : Full1 W B n y := by
  obtain ⟨cs, ho, hp⟩ := h.own k hk
  rw [hs, hv, hn] at ho
  exact full1_of ho (hφ cs hp)
theorem Gf.full3 (h : Gf w0 N F W) (hk : k < N) (hs : (F k).s = 3) (hv : (F k).v = .slice B n c) (hn : (F k).n = n) (hφ : ∀ cs, (F k).φ cs → fm y n cs) : Full3 W B n y := by
  obtain ⟨cs, ho, hp⟩ := h.own k hk
  rw [hs, hv, hn] at ho
  exact full3_of ho (hφ cs hp)
end
end Go.Proofs.YtahkpcbemnfllaaDoor.Gen
namespace Go.Proofs.YtahkpcbemnfllaaDoor.Gen
open Go.RowKit Go.Proofs.YtahkpcbemnfllaaDoor.Base Go.Proofs.YtahkpcbemnfllaaDoor.Mem Go.Proofs.YtahkpcbemnfllaaDoor.Comp
open Go.Proofs.YtahkpcbemnfllaaDoor.Lst (Kp own_below own_lt own_base own_kp own_down)

/-- The shape of the family: ten rows of texts, ten of nodes, the two outer rows. -/
structure Sh (hv mv : Nat → Value) (nh nm : Nat → Nat) (A c B d : Nat) (F : Nat → Ent) : Prop where
  h : ∀ k, k < 10 → (F k).E = 9 ∧ (F k).s = 1 ∧ (F k).v = hv k ∧ (F k).n = nh k
  m : ∀ k, k < 10 → (F (10 + k)).E = 54 ∧ (F (10 + k)).s = 3 ∧ (F (10 + k)).v = mv k ∧ (F (10 + k)).n = nm k
  o : F 20 = ⟨22, 1, .slice (some ⟨A, 0, none⟩) 10 c, 10, fun cs => cs = (List.range 10).map hv⟩
  p : F 21 = ⟨40, 1, .slice (some ⟨B, 0, none⟩) 10 d, 10, fun cs => cs = (List.range 10).map mv⟩
variable {hv mv : Nat → Value} {nh nm : Nat → Nat} {A c B d : Nat} {w0 W W' : World} {F : Nat → Ent} {k j1 j2 : Nat}
theorem Sh.upd (h : Sh hv mv nh nm A c B d F) {q : Nat} (hq : q < 20) (φ : List Value → Prop) : Sh hv mv nh nm A c B d (upd F q φ) := by
  refine ⟨fun i hi => ?_, fun i hi => ?_, ?_, ?_⟩
  · by_cases e : i = q
    · subst e; simpa [Gen.upd] using h.h i hi
    · simpa [Gen.upd, e] using h.h i hi
  · by_cases e : 10 + i = q
    · subst e; simpa [Gen.upd] using h.m i hi
    · simpa [Gen.upd, e] using h.m i hi
  · show (if (20 : Nat) = q then _ else F 20) = _
    rw [if_neg (by omega)]; exact h.o
  · show (if (21 : Nat) = q then _ else F 21) = _
    rw [if_neg (by omega)]; exact h.p
/-- The rows below k are full of their marks; of the rows of k the first j1 texts, the first j2 nodes. -/
def A1 (hv mv : Nat → Value) (nh nm : Nat → Nat) (A c B d : Nat) (w0 : World) (k j1 j2 : Nat) (W : World) : Prop :=
  ∃ F, Sh hv mv nh nm A c B d F ∧ Gf w0 22 F W ∧ (∀ i, i < k → (∀ cs, (F i).φ cs → fh (mkA i) (nh i) cs) ∧ (∀ cs, (F (10 + i)).φ cs → fm (mkA i) (nm i) cs)) ∧ (∀ cs, (F k).φ cs → fh (mkA k) j1 cs) ∧ (∀ cs, (F (10 + k)).φ cs → fm (mkA k) j2 cs)
theorem A1.start (hs : Sh hv mv nh nm A c B d F) (h : Gf w0 22 F W) : A1 hv mv nh nm A c B d w0 0 0 0 W :=
  ⟨F, hs, h, fun i hi => absurd hi (by omega), fun cs _ i hi => absurd hi (by omega), fun cs _ i hi => absurd hi (by omega)⟩
theorem A1.call (h : A1 hv mv nh nm A c B d w0 k j1 j2 W) (b : Below W.heap.size W W') : A1 hv mv nh nm A c B d w0 k j1 j2 W' := by
  obtain ⟨F, h1, h2, h3⟩ := h
  exact ⟨F, h1, h2.call b, h3⟩
theorem A1.next (h : A1 hv mv nh nm A c B d w0 k (nh k) (nm k) W) : A1 hv mv nh nm A c B d w0 (k + 1) 0 0 W := by
  obtain ⟨F, h1, h2, h3, h4, h5⟩ := h
  refine ⟨F, h1, h2, fun i hi => ?_, fun cs _ i hi => absurd hi (by omega), fun cs _ i hi => absurd hi (by omega)⟩
  by_cases e : i = k
  · subst e; exact ⟨h4, h5⟩
  · exact h3 i (by omega)
theorem row_cells {base E n c g : Nat} {vs : List Value} (h : W.ownsRow base E 1 (.slice (some ⟨g, 0, none⟩) n c) n vs) {i : Nat} (hi : i < n) : W.cell? ⟨g, i, none⟩ = vs[i]? := h.cellAt i (by omega)
theorem A1.looks (h : A1 hv mv nh nm A c B d w0 k j1 j2 W) {i : Nat} (hi : i < 10) : W.cell? ⟨A, i, none⟩ = some (hv i) ∧ W.cell? ⟨B, i, none⟩ = some (mv i) := by
  obtain ⟨F, h1, h2, _⟩ := h
  obtain ⟨cs, o1, o2⟩ := h2.own 20 (by omega)
  obtain ⟨cs', p1, p2⟩ := h2.own 21 (by omega)
  rw [h1.o] at o1 o2
  rw [h1.p] at p1 p2
  have o2 : cs = (List.range 10).map hv := o2
  have p2 : cs' = (List.range 10).map mv := p2
  subst o2 p2
  exact ⟨(row_cells o1 hi).trans (by simp [hi]), (row_cells p1 hi).trans (by simp [hi])⟩
theorem A1.shapes (h : A1 hv mv nh nm A c B d w0 k j1 j2 W) {i : Nat} (hi : i < 10) : (∃ B c, hv i = .slice B (nh i) c) ∧ ∃ B c, mv i = .slice B (nm i) c := by
  obtain ⟨F, h1, h2, _⟩ := h
  obtain ⟨cs, o1, _⟩ := h2.own i (by omega)
  obtain ⟨cs', p1, _⟩ := h2.own (10 + i) (by omega)
  obtain ⟨e1, e2, e3, e4⟩ := h1.h i hi
  obtain ⟨f1, f2, f3, f4⟩ := h1.m i hi
  obtain ⟨B1, c1, g1, _⟩ := own_slice o1
  obtain ⟨B2, c2, g2, _⟩ := own_slice p1
  exact ⟨⟨B1, c1, by rw [← e3, g1, e4]⟩, ⟨B2, c2, by rw [← f3, g2, f4]⟩⟩
theorem A1.bel (h : A1 hv mv nh nm A c B d w0 k j1 j2 W) : Below w0.heap.size w0 W := by
  obtain ⟨F, h1, h2, _⟩ := h
  exact h2.bel
/-- One text more. -/
theorem A1.stepH (h : A1 hv mv nh nm A c B d w0 k j1 j2 W) (hk : k < 10) {B0 : Option Addr} {c0 : Nat} (hv0 : hv k = .slice B0 (nh k) c0) (hj : j1 < nh k) :
    ∃ g, B0 = some ⟨g, 0, none⟩ ∧ (∃ u, W.cell? ⟨g, j1, none⟩ = some u) ∧ W.frozen? ⟨g, j1, none⟩ = false ∧ A1 hv mv nh nm A c B d w0 k (j1 + 1) j2 (W.setCell ⟨g, j1, none⟩ (.string (mkA k))) := by
  obtain ⟨F, h1, h2, h3, h4, h5⟩ := h
  obtain ⟨e1, e2, e3, e4⟩ := h1.h k hk
  obtain ⟨g, rfl, _, c1, c2, g1⟩ := h2.fillH (k := k) (by omega) e2 (e3.trans hv0) e4 h4 hj
  refine ⟨g, rfl, c1, c2, _, h1.upd (by omega) _, g1, fun i hi => ?_, fun cs hc => ?_, fun cs hc => ?_⟩
  · have := h3 i hi
    simp only [Gen.upd]
    rw [if_neg (by omega), if_neg (by omega)]
    exact this
  · simp only [Gen.upd, if_true] at hc; exact hc
  · simp only [Gen.upd] at hc
    rw [if_neg (by omega)] at hc
    exact h5 cs hc
/-- One node more. -/
theorem A1.stepM (h : A1 hv mv nh nm A c B d w0 k j1 j2 W) (hk : k < 10) {B0 : Option Addr} {c0 : Nat} (hv0 : mv k = .slice B0 (nm k) c0) (hj : j2 < nm k) :
    ∃ g, B0 = some ⟨g, 0, none⟩ ∧ ((∃ u, W.cell? ⟨g, j2 * 3, none⟩ = some u) ∧ (∃ u, W.cell? ⟨g, j2 * 3 + 1, none⟩ = some u) ∧ (∃ u, W.cell? ⟨g, j2 * 3 + 2, none⟩ = some u)) ∧ (∀ q, W.frozen? ⟨g, q, none⟩ = false) ∧
      A1 hv mv nh nm A c B d w0 k j1 (j2 + 1) (((W.setCell ⟨g, j2 * 3, none⟩ (.int .i64 0)).setCell ⟨g, j2 * 3 + 1, none⟩ (.int .i64 0)).setCell ⟨g, j2 * 3 + 2, none⟩ (.string (mkA k))) := by
  obtain ⟨F, h1, h2, h3, h4, h5⟩ := h
  obtain ⟨e1, e2, e3, e4⟩ := h1.m k hk
  obtain ⟨g, rfl, _, c1, c2, g1⟩ := h2.fillM (k := 10 + k) (by omega) e2 (e3.trans hv0) e4 h5 hj
  refine ⟨g, rfl, c1, c2, _, h1.upd (by omega) _, g1, fun i hi => ?_, fun cs hc => ?_, fun cs hc => ?_⟩
  · have := h3 i hi
    simp only [Gen.upd]
    rw [if_neg (by omega), if_neg (by omega)]
    exact this
  · simp only [Gen.upd] at hc
    rw [if_neg (by omega)] at hc
    exact h4 cs hc
  · simp only [Gen.upd, if_true] at hc; exact hc
end Go.Proofs.YtahkpcbemnfllaaDoor.Gen
namespace Go.Proofs.YtahkpcbemnfllaaDoor.Gen
open Go.RowKit Go.Proofs.YtahkpcbemnfllaaDoor.Base Go.Proofs.YtahkpcbemnfllaaDoor.Mem Go.Proofs.YtahkpcbemnfllaaDoor.Comp
open Go.Proofs.YtahkpcbemnfllaaDoor.Lst (Kp own_below own_lt own_base own_kp own_down)

section
variable {w0 W W' : World} {N k : Nat} {F : Nat → Ent}
/-- An entry's row for a longer one: in its place, or in new memory. -/
theorem Gf.swap (h : Gf w0 N F W) (hk : k < N) (e : Ent) (o : e.ok w0.heap.size W') (hc : (W.grownBy W' (F k).v.ownBlock ∧ e.v.ownBlock = (F k).v.ownBlock) ∨ (Below W.heap.size W W' ∧ ∀ b, e.v.ownBlock = some b → W.heap.size ≤ b)) : Gf w0 N (fun i => if i = k then e else F i) W' := by
  have hg : W.grownBy W' (F k).v.ownBlock := hc.elim (·.1) (fun h => Grew.of_below h.1 _)
  have hb : ∀ b, e.v.ownBlock = some b → (F k).v.ownBlock = some b ∨ W.heap.size ≤ b := fun b hb => hc.elim (fun h => .inl (h.2 ▸ hb)) (fun h => .inr (h.2 b hb))
  refine ⟨h.bel.grown hg h.bel.size (fun b e => h.ge hk e), fun i hi => ?_, fun i j hi hj hij b e1 e2 => ?_⟩
  · by_cases hik : i = k
    · subst hik; simp only [if_true]; exact o
    · simp only [if_neg hik]
      obtain ⟨cs, h1, h2⟩ := h.own i hi
      refine ⟨cs, World.ownsRow.kept h1 hg ?_, h2⟩
      cases hq : (F i).v.ownBlock with
      | none => exact .inl rfl
      | some b => exact .inr fun e => h.ap i k hi hk hik b hq e.symm
  · by_cases hik : i = k
    · subst hik
      simp only [if_true] at e1
      rw [if_neg (fun e => hij e.symm)] at e2
      rcases hb b e1 with h1 | h1
      · exact h.ap i j hi hj hij b h1 e2
      · have := h.lt hj e2; omega
    · simp only [if_neg hik] at e1
      by_cases hjk : j = k
      · subst hjk
        simp only [if_true] at e2
        rcases hb b e2 with h1 | h1
        · exact h.ap i j hi hj hij b e1 h1
        · have := h.lt hi e1; omega
      · simp only [if_neg hjk] at e2
        exact h.ap i j hi hj hij b e1 e2
theorem Kp.chain {S S' : Nat → Prop} {W1 : World} (h1 : Kp S W W1) (h2 : Kp S' W1 W') (hs : ∀ b, b < W.heap.size → S' b → S b) : Kp S W W' :=
  ⟨h2.os.trans h1.os, h2.tape.trans h1.tape, h2.output.trans h1.output, Nat.le_trans h1.size h2.size, fun b hb hn => (h2.block b (Nat.lt_of_lt_of_le hb h1.size) (fun e => hn (hs b hb e))).trans (h1.block b hb hn)⟩
end
/-- The entries that may still be written. -/
def Idx (k i : Nat) : Prop := (k ≤ i ∧ i < 10) ∨ (10 + k ≤ i ∧ i < 20) ∨ i = 22 ∨ i = 23
def Mod (F : Nat → Ent) (k b : Nat) : Prop := ∃ i, Idx k i ∧ (F i).v.ownBlock = some b
/-- What stays whatever is written from now on. -/
def Stay (F : Nat → Ent) (k : Nat) (W : World) (P : World → Prop) : Prop := ∀ W', Kp (Mod F k) W W' → P W'
section
variable {w0 W W' : World} {k : Nat} {F : Nat → Ent} {P : World → Prop}
theorem Stay.now (h : Stay F k W P) : P W := h W (Kp.refl _ _)
theorem Stay.step {F' : Nat → Ent} {k' : Nat} (h : Stay F k W P) (h1 : Kp (Mod F k) W W') (hs : ∀ b, b < W.heap.size → Mod F' k' b → Mod F k b) : Stay F' k' W' P := fun W2 h2 => h W2 (Kp.chain h1 h2 hs)
theorem Stay.call (h : Stay F k W P) (b : Below W.heap.size W W') : Stay F k W' P := h.step (Kp.of_below b) (fun _ _ e => e)
theorem mod_swap {e : Ent} {q : Nat} (hq : Idx k q) (hb : ∀ b, e.v.ownBlock = some b → (F q).v.ownBlock = some b ∨ W.heap.size ≤ b) : ∀ b, b < W.heap.size → Mod (fun i => if i = q then e else F i) k b → Mod F k b := fun b hlt ⟨i, hi, hv⟩ => by
  by_cases hiq : i = q
  · subst hiq
    simp only [if_true] at hv
    rcases hb b hv with h1 | h1
    · exact ⟨i, hq, h1⟩
    · omega
  · simp only [if_neg hiq] at hv
    exact ⟨i, hi, hv⟩
theorem Idx.mono {k i : Nat} (h : Idx (k + 1) i) : Idx k i := by unfold Idx at *; omega
end
def V1 (W : World) (v : Value) (n : Nat) (y : ByteArray) : Prop := ∃ B c, v = .slice B n c ∧ Full1 W B n y
def V3 (W : World) (v : Value) (n : Nat) (y : ByteArray) : Prop := ∃ B c, v = .slice B n c ∧ Full3 W B n y
/-- All of number i is full: what was given, and what has grown of it. -/
structure All4 (hv mv lv rv : Nat → Value) (nh nm : Nat → Nat) (i : Nat) (W : World) : Prop where
  a : V1 W (hv i) (nh i) (mkA i)
  b : V1 W (lv i) (nh i + 64) (mkA i)
  c : V3 W (mv i) (nm i) (mkA i)
  d : V3 W (rv i) (nm i + 64) (mkA i)
/-- Between two rounds of the second loop. -/
structure AR (hv mv : Nat → Value) (nh nm : Nat → Nat) (A c B d : Nat) (w0 : World) (lv rv : Nat → Value) (mo lo : Value) (k n1 n2 : Nat) (F : Nat → Ent) (W : World) : Prop where
  h : ∀ i, k ≤ i → i < 10 → (F i).E = 9 ∧ (F i).s = 1 ∧ (F i).v = hv i ∧ (F i).n = nh i ∧ ∀ cs, (F i).φ cs → fh (mkA i) (nh i) cs
  m : ∀ i, k ≤ i → i < 10 → (F (10 + i)).E = 54 ∧ (F (10 + i)).s = 3 ∧ (F (10 + i)).v = mv i ∧ (F (10 + i)).n = nm i ∧ ∀ cs, (F (10 + i)).φ cs → fm (mkA i) (nm i) cs
  o : F 20 = ⟨22, 1, .slice (some ⟨A, 0, none⟩) 10 c, 10, fun cs => cs = (List.range 10).map hv⟩
  p : F 21 = ⟨40, 1, .slice (some ⟨B, 0, none⟩) 10 d, 10, fun cs => cs = (List.range 10).map mv⟩
  e22 : F 22 = ⟨22, 1, mo, n1, fun cs => cs = (List.range n1).map lv⟩
  e23 : F 23 = ⟨40, 1, lo, n2, fun cs => cs = (List.range n2).map rv⟩
  g : Gf w0 24 F W
  past : ∀ i, i < k → Stay F k W (All4 hv mv lv rv nh nm i)
/-- Within a round: the two rows have grown by j1 texts, j2 nodes. -/
structure AI (hv mv : Nat → Value) (nh nm : Nat → Nat) (A c B d : Nat) (w0 : World) (lv rv : Nat → Value) (mo lo : Value) (k j1 j2 : Nat) (l r : Value) (F : Nat → Ent) (W : World) : Prop where
  h : ∀ i, k < i → i < 10 → (F i).E = 9 ∧ (F i).s = 1 ∧ (F i).v = hv i ∧ (F i).n = nh i ∧ ∀ cs, (F i).φ cs → fh (mkA i) (nh i) cs
  m : ∀ i, k < i → i < 10 → (F (10 + i)).E = 54 ∧ (F (10 + i)).s = 3 ∧ (F (10 + i)).v = mv i ∧ (F (10 + i)).n = nm i ∧ ∀ cs, (F (10 + i)).φ cs → fm (mkA i) (nm i) cs
  ch : (F k).E = 9 ∧ (F k).s = 1 ∧ (F k).v = l ∧ (F k).n = nh k + j1 ∧ ∀ cs, (F k).φ cs → fh (mkA k) (nh k + j1) cs
  cm : (F (10 + k)).E = 54 ∧ (F (10 + k)).s = 3 ∧ (F (10 + k)).v = r ∧ (F (10 + k)).n = nm k + j2 ∧ ∀ cs, (F (10 + k)).φ cs → fm (mkA k) (nm k + j2) cs
  o : F 20 = ⟨22, 1, .slice (some ⟨A, 0, none⟩) 10 c, 10, fun cs => cs = (List.range 10).map hv⟩
  p : F 21 = ⟨40, 1, .slice (some ⟨B, 0, none⟩) 10 d, 10, fun cs => cs = (List.range 10).map mv⟩
  e22 : F 22 = ⟨22, 1, mo, k, fun cs => cs = (List.range k).map lv⟩
  e23 : F 23 = ⟨40, 1, lo, k, fun cs => cs = (List.range k).map rv⟩
  g : Gf w0 24 F W
  oh : (∃ g c, hv k = .slice (some ⟨g, 0, none⟩) (nh k) c ∧ l = .slice (some ⟨g, 0, none⟩) (nh k + j1) c) ∨ Stay F k W (fun W' => V1 W' (hv k) (nh k) (mkA k))
  om : (∃ g c, mv k = .slice (some ⟨g, 0, none⟩) (nm k) c ∧ r = .slice (some ⟨g, 0, none⟩) (nm k + j2) c) ∨ Stay F k W (fun W' => V3 W' (mv k) (nm k) (mkA k))
  past : ∀ i, i < k → Stay F k W (All4 hv mv lv rv nh nm i)
variable {hv mv lv rv : Nat → Value} {nh nm : Nat → Nat} {A c B d : Nat} {w0 W W' : World} {F : Nat → Ent} {k n1 n2 j1 j2 : Nat} {mo lo l r : Value}
theorem AR.call (h : AR hv mv nh nm A c B d w0 lv rv mo lo k n1 n2 F W) (b : Below W.heap.size W W') : AR hv mv nh nm A c B d w0 lv rv mo lo k n1 n2 F W' := { h with g := h.g.call b, past := fun i hi => (h.past i hi).call b }
theorem AI.call (h : AI hv mv nh nm A c B d w0 lv rv mo lo k j1 j2 l r F W) (b : Below W.heap.size W W') : AI hv mv nh nm A c B d w0 lv rv mo lo k j1 j2 l r F W' :=
  { h with g := h.g.call b, past := fun i hi => (h.past i hi).call b, oh := h.oh.imp id (fun s => s.call b), om := h.om.imp id (fun s => s.call b) }
/-- The second loop begins. -/
theorem AR.start (h : A1 hv mv nh nm A c B d w0 10 0 0 W) : ∃ F, AR hv mv nh nm A c B d w0 lv rv (.slice none 0 0) (.slice none 0 0) 0 0 0 F W := by
  obtain ⟨F, h1, h2, h3, _, _⟩ := h
  have g1 := h2.add (Below.refl _ W) ⟨22, 1, .slice none 0 0, 0, fun cs => cs = (List.range 0).map lv⟩ ⟨[], World.ownsRow_nil _ _ _ _, rfl⟩
  have g2 := g1.add (Below.refl _ W) ⟨40, 1, .slice none 0 0, 0, fun cs => cs = (List.range 0).map rv⟩ ⟨[], World.ownsRow_nil _ _ _ _, rfl⟩
  refine ⟨_, ⟨fun i _ hi => ?_, fun i _ hi => ?_, ?_, ?_, ?_, ?_, g2, fun i hi => absurd hi (by omega)⟩⟩
  · rw [if_neg (by omega), if_neg (by omega)]
    obtain ⟨e1, e2, e3, e4⟩ := h1.h i hi
    exact ⟨e1, e2, e3, e4, (h3 i hi).1⟩
  · rw [if_neg (by omega), if_neg (by omega)]
    obtain ⟨e1, e2, e3, e4⟩ := h1.m i hi
    exact ⟨e1, e2, e3, e4, (h3 i hi).2⟩
  · rw [if_neg (by omega), if_neg (by omega)]; exact h1.o
  · rw [if_neg (by omega), if_neg (by omega)]; exact h1.p
  · rw [if_neg (by omega), if_pos rfl]
  · rw [if_pos rfl]
/-- A round begins. -/
theorem AR.enter (h : AR hv mv nh nm A c B d w0 lv rv mo lo k k k F W) (hk : k < 10) : AI hv mv nh nm A c B d w0 lv rv mo lo k 0 0 (hv k) (mv k) F W := by
  obtain ⟨e1, e2, e3, e4, e5⟩ := h.h k (Nat.le_refl _) hk
  obtain ⟨f1, f2, f3, f4, f5⟩ := h.m k (Nat.le_refl _) hk
  refine ⟨fun i h1 h2 => h.h i (by omega) h2, fun i h1 h2 => h.m i (by omega) h2, ⟨e1, e2, e3, e4, e5⟩, ⟨f1, f2, f3, f4, f5⟩, h.o, h.p, h.e22, h.e23, h.g, ?_, ?_, h.past⟩
  · obtain ⟨cs, o1, _⟩ := h.g.own k (by omega)
    rw [e2, e3, e4] at o1
    rcases o1.2 with ⟨h0, h1⟩ | ⟨g, cap, cur, e, _⟩
    · exact .inr fun W' _ => ⟨none, 0, by rw [h0, h1], fun hn => absurd hn (by omega)⟩
    · exact .inl ⟨g, cap, e, e⟩
  · obtain ⟨cs, o1, _⟩ := h.g.own (10 + k) (by omega)
    rw [f2, f3, f4] at o1
    rcases o1.2 with ⟨h0, h1⟩ | ⟨g, cap, cur, e, _⟩
    · exact .inr fun W' _ => ⟨none, 0, by rw [h0, h1], fun hn => absurd hn (by omega)⟩
    · exact .inl ⟨g, cap, e, e⟩
end Go.Proofs.YtahkpcbemnfllaaDoor.Gen
namespace Go.Proofs.YtahkpcbemnfllaaDoor.Gen
open Go.RowKit Go.Proofs.YtahkpcbemnfllaaDoor.Base Go.Proofs.YtahkpcbemnfllaaDoor.Mem Go.Proofs.YtahkpcbemnfllaaDoor.Comp
open Go.Proofs.YtahkpcbemnfllaaDoor.Lst (Kp own_below own_lt own_base own_kp own_down)

abbrev sub (F : Nat → Ent) (q : Nat) (e : Ent) : Nat → Ent := fun i => if i = q then e else F i
theorem sub_ne {F : Nat → Ent} {q i : Nat} {e : Ent} (h : i ≠ q) : sub F q e i = F i := if_neg h
theorem sub_eq {F : Nat → Ent} {q : Nat} {e : Ent} : sub F q e q = e := if_pos rfl
section
variable {w0 W W' : World} {k q : Nat} {F : Nat → Ent}
theorem Idx.lt (h : Idx k q) : k < 11 → q < 24 := fun _ => by unfold Idx at h; omega
/-- append, in the family. -/
theorem grow (h : Gf w0 24 F W) (hk : k < 11) (hq : Idx k q) (t ty E : TypeId) (s by_ : Nat) (z : Value) (ht : Tryd.prog.underlying t = some (.slice E)) (he : El E s by_ z) (v : Value) (n m : Nat) (ys : List Value) (b : Nat)
    (hE : (F q).E = E) (hs : (F q).s = s) (hv : (F q).v = v) (hn : (F q).n = n) (hb : W.heap[b]? = some (.cells ys.toArray E (0, 0))) (hl : ys.length = m * s) (h1 : ∀ u ∈ ys, u.oneCell' = true) (hm : 0 < m) (hbd : (n + m) * by_ ≤ 140737488355328)
    (φ' : List Value → Prop) (hφ : ∀ cs : List Value, cs.length = n * s → (F q).φ cs → φ' (cs ++ ys)) :
    ∃ g c w1, (Builtin.append_ #[t, t] ty #[v, .slice (some ⟨b, 0, none⟩) m m]).run Tryd.prog W = .ok (.slice (some ⟨g, 0, none⟩) (n + m) c) w1 ∧
      Gf w0 24 (sub F q ⟨E, s, .slice (some ⟨g, 0, none⟩) (n + m) c, n + m, φ'⟩) w1 ∧ Kp (Mod F k) W w1 ∧ (∀ b, b < W.heap.size → Mod (sub F q ⟨E, s, .slice (some ⟨g, 0, none⟩) (n + m) c, n + m, φ'⟩) k b → Mod F k b) ∧
      (v = .slice (some ⟨g, 0, none⟩) n c ∨ (W.heap.size ≤ g ∧ Below W.heap.size W w1)) := by
  have hq24 := hq.lt (by omega)
  obtain ⟨cs, o1, o2⟩ := h.own q hq24
  rw [hE, hs, hv, hn] at o1
  obtain ⟨g, c, w1, hr, o3, hc⟩ := run_appG t ty E s by_ z ht he w0.heap.size v n m cs ys b o1 hb hl h1 hm h.bel.size hbd
  refine ⟨g, c, w1, hr, h.swap hq24 _ ⟨_, o3, hφ cs o1.1 o2⟩ ?_, ?_, ?_, hc.imp (·.1) id⟩
  · rcases hc with ⟨h1, h2⟩ | ⟨h1, h2⟩
    · left
      have e : (F q).v.ownBlock = some g := by rw [hv, h1]; rfl
      rw [e]
      exact ⟨h2, rfl⟩
    · right
      refine ⟨h2, fun b hb => ?_⟩
      simp only [Value.ownBlock, Option.some.injEq] at hb
      omega
  · rcases hc with ⟨h1, h2⟩ | ⟨h1, h2⟩
    · refine (Kp.refl _ _).grown h2 (fun b hb _ => ?_)
      injection hb with hb
      subst hb
      exact ⟨q, hq, by rw [hv, h1]; rfl⟩
    · exact Kp.of_below h2
  · refine mod_swap hq (fun b hb => ?_)
    simp only [Value.ownBlock, Option.some.injEq] at hb
    subst hb
    rcases hc with ⟨h1, h2⟩ | ⟨h1, h2⟩
    · left; rw [hv, h1]; rfl
    · right; exact h1
/-- The block that an entry has left is never written again. -/
theorem gone (h : Gf w0 24 F W) (hk : k < 11) (hq : Idx k q) {g0 : Nat} (hv : (F q).v.ownBlock = some g0) (e : Ent) (he : ∀ b, e.v.ownBlock = some b → W.heap.size ≤ b) : ¬ Mod (sub F q e) k g0 := fun ⟨i, hi, hb⟩ => by
  by_cases hiq : i = q
  · subst hiq
    rw [sub_eq] at hb
    have := he _ hb
    have := h.lt (hq.lt (by omega)) hv
    omega
  · rw [sub_ne hiq] at hb
    exact h.ap i q (hi.lt (by omega)) (hq.lt (by omega)) hiq g0 hb hv
end
theorem fh_snoc {y : ByteArray} {n : Nat} {cs : List Value} (hl : cs.length = n * 1) (h : fh y n cs) : fh y (n + 1) (cs ++ [.string y]) := fun i hi => by
  by_cases e : i < n
  · rw [List.getElem?_append_left (by omega)]; exact h i e
  · obtain rfl : i = n := by omega
    rw [List.getElem?_append_right (by omega)]
    simp [show i - cs.length = 0 by omega]
theorem fm_snoc {y : ByteArray} {n : Nat} {cs : List Value} (hl : cs.length = n * 3) (h : fm y n cs) : fm y (n + 1) (cs ++ [.int .i64 0, .int .i64 0, .string y]) := fun i hi => by
  by_cases e : i < n
  · rw [List.getElem?_append_left (by omega)]; exact h i e
  · obtain rfl : i = n := by omega
    rw [List.getElem?_append_right (by omega)]
    simp [show i * 3 + 2 - cs.length = 2 by omega]
theorem fh_take {y : ByteArray} {n m : Nat} {cs : List Value} (h : fh y (n + m) cs) : fh y n (cs.take n) := fun i hi => by
  rw [List.getElem?_take_of_lt hi]; exact h i (by omega)
theorem fm_take {y : ByteArray} {n m : Nat} {cs : List Value} (h : fm y (n + m) cs) : fm y n (cs.take (n * 3)) := fun i hi => by
  rw [List.getElem?_take_of_lt (by omega)]; exact h i (by omega)
section
variable {hv mv lv rv : Nat → Value} {nh nm : Nat → Nat} {A c B d : Nat} {w0 W W' : World} {F : Nat → Ent} {k j1 j2 : Nat} {mo lo l r : Value}
/-- append of a text. -/
theorem AI.stepH (h : AI hv mv nh nm A c B d w0 lv rv mo lo k j1 j2 l r F W) (hk : k < 10) (b : Nat) (hb : W.heap[b]? = some (.cells #[.string (mkA k)] 9 (0, 0))) (hn : nh k + j1 ≤ 1000000) (ty : TypeId) :
    ∃ l' w1, (Builtin.append_ #[22, 22] ty #[l, .slice (some ⟨b, 0, none⟩) 1 1]).run Tryd.prog W = .ok l' w1 ∧ ∃ F', AI hv mv nh nm A c B d w0 lv rv mo lo k (j1 + 1) j2 l' r F' w1 := by
  obtain ⟨e1, e2, e3, e4, e5⟩ := h.ch
  have hq : Idx k k := .inl ⟨Nat.le_refl _, hk⟩
  obtain ⟨g, c1, w1, hr, g1, kp, md, hc⟩ := grow h.g (by omega) hq 22 ty 9 1 16 (.string ⟨#[]⟩) Tryd.underlying22 elS l (nh k + j1) 1 [.string (mkA k)] b e1 e2 e3 e4 hb rfl (by simp [Value.oneCell']) (by omega) (by omega)
    (fh (mkA k) (nh k + j1 + 1)) (fun cs hl hp => fh_snoc hl (e5 cs hp))
  refine ⟨_, w1, hr, _, ⟨fun i h1 h2 => ?_, fun i h1 h2 => ?_, ?_, ?_, ?_, ?_, ?_, ?_, g1, ?_, ?_, fun i hi => (h.past i hi).step kp md⟩⟩
  · rw [sub_ne (by omega)]; exact h.h i h1 h2
  · rw [sub_ne (by omega)]; exact h.m i h1 h2
  · rw [sub_eq]; exact ⟨rfl, rfl, rfl, rfl, fun cs hp => hp⟩
  · rw [sub_ne (by omega)]; exact h.cm
  · rw [sub_ne (by omega)]; exact h.o
  · rw [sub_ne (by omega)]; exact h.p
  · rw [sub_ne (by omega)]; exact h.e22
  · rw [sub_ne (by omega)]; exact h.e23
  · rcases h.oh with ⟨g0, c0, ha, hl⟩ | hst
    · rcases hc with hc | ⟨hg, hbel⟩
      · left
        rw [hl] at hc
        simp only [Value.slice.injEq, Option.some.injEq, Addr.mk.injEq] at hc
        obtain ⟨⟨rfl, _⟩, _, rfl⟩ := hc
        exact ⟨g0, c0, ha, rfl⟩
      · right
        obtain ⟨cs, o1, o2⟩ := h.g.own k (by omega)
        rw [e1, e2, e3, e4, hl] at o1
        have hfr := e5 cs o2
        have hlen := o1.1
        rw [← List.take_append_drop (nh k) cs] at o1
        have o3 := own_front o1 (by rw [List.length_take]; omega)
        have hf : Full1 W (some ⟨g0, 0, none⟩) (nh k) (mkA k) := full1_of o3 (fh_take hfr)
        have hgone := gone h.g (by omega) hq (g0 := g0) (by rw [e3, hl]; rfl) ⟨9, 1, .slice (some ⟨g, 0, none⟩) (nh k + j1 + 1) c1, nh k + j1 + 1, fh (mkA k) (nh k + j1 + 1)⟩ (fun b hb => by simp only [Value.ownBlock, Option.some.injEq] at hb; omega)
        intro W' hW
        have hz := hW.size
        have hk2 := (hf.below hbel).keep hz (fun ad had hlt => by
          obtain rfl := Option.some.inj had
          exact hW.block g0 hlt hgone)
        exact ⟨_, _, ha, hk2⟩
    · right; exact hst.step kp md
  · rcases h.om with h1 | hst
    · exact .inl h1
    · right; exact hst.step kp md
/-- append of a node. -/
theorem AI.stepM (h : AI hv mv nh nm A c B d w0 lv rv mo lo k j1 j2 l r F W) (hk : k < 10) (b : Nat) (hb : W.heap[b]? = some (.cells #[.int .i64 0, .int .i64 0, .string (mkA k)] 54 (0, 0))) (hn : nm k + j2 ≤ 1000000) (ty : TypeId) :
    ∃ r' w1, (Builtin.append_ #[40, 40] ty #[r, .slice (some ⟨b, 0, none⟩) 1 1]).run Tryd.prog W = .ok r' w1 ∧ ∃ F', AI hv mv nh nm A c B d w0 lv rv mo lo k j1 (j2 + 1) l r' F' w1 := by
  obtain ⟨e1, e2, e3, e4, e5⟩ := h.cm
  have hq : Idx k (10 + k) := .inr (.inl ⟨Nat.le_refl _, by omega⟩)
  obtain ⟨g, c1, w1, hr, g1, kp, md, hc⟩ := grow h.g (by omega) hq 40 ty 54 3 32 (.agg #[.int .i64 0, .int .i64 0, .string ⟨#[]⟩]) Tryd.underlying40 elM r (nm k + j2) 1 [.int .i64 0, .int .i64 0, .string (mkA k)] b e1 e2 e3 e4 hb rfl (by simp [Value.oneCell']) (by omega) (by omega)
    (fm (mkA k) (nm k + j2 + 1)) (fun cs hl hp => fm_snoc hl (e5 cs hp))
  refine ⟨_, w1, hr, _, ⟨fun i h1 h2 => ?_, fun i h1 h2 => ?_, ?_, ?_, ?_, ?_, ?_, ?_, g1, ?_, ?_, fun i hi => (h.past i hi).step kp md⟩⟩
  · rw [sub_ne (by omega)]; exact h.h i h1 h2
  · rw [sub_ne (by omega)]; exact h.m i h1 h2
  · rw [sub_ne (by omega)]; exact h.ch
  · rw [sub_eq]; exact ⟨rfl, rfl, rfl, rfl, fun cs hp => hp⟩
  · rw [sub_ne (by omega)]; exact h.o
  · rw [sub_ne (by omega)]; exact h.p
  · rw [sub_ne (by omega)]; exact h.e22
  · rw [sub_ne (by omega)]; exact h.e23
  · rcases h.oh with h1 | hst
    · exact .inl h1
    · right; exact hst.step kp md
  · rcases h.om with ⟨g0, c0, ha, hl⟩ | hst
    · rcases hc with hc | ⟨hg, hbel⟩
      · left
        rw [hl] at hc
        simp only [Value.slice.injEq, Option.some.injEq, Addr.mk.injEq] at hc
        obtain ⟨⟨rfl, _⟩, _, rfl⟩ := hc
        exact ⟨g0, c0, ha, rfl⟩
      · right
        obtain ⟨cs, o1, o2⟩ := h.g.own (10 + k) (by omega)
        rw [e1, e2, e3, e4, hl] at o1
        have hfr := e5 cs o2
        have hlen := o1.1
        rw [← List.take_append_drop (nm k * 3) cs] at o1
        have o3 := own_front o1 (by rw [List.length_take]; omega)
        have hf : Full3 W (some ⟨g0, 0, none⟩) (nm k) (mkA k) := full3_of o3 (fm_take hfr)
        have hgone := gone h.g (by omega) hq (g0 := g0) (by rw [e3, hl]; rfl) ⟨54, 3, .slice (some ⟨g, 0, none⟩) (nm k + j2 + 1) c1, nm k + j2 + 1, fm (mkA k) (nm k + j2 + 1)⟩ (fun b hb => by simp only [Value.ownBlock, Option.some.injEq] at hb; omega)
        intro W' hW
        have hz := hW.size
        have hk2 := (hf.below hbel).keep hz (fun ad had hlt => by
          obtain rfl := Option.some.inj had
          exact hW.block g0 hlt hgone)
        exact ⟨_, _, ha, hk2⟩
    · right; exact hst.step kp md
end
end Go.Proofs.YtahkpcbemnfllaaDoor.Gen
namespace Go.Proofs.YtahkpcbemnfllaaDoor.Gen
open Go.RowKit Go.Proofs.YtahkpcbemnfllaaDoor.Base Go.Proofs.YtahkpcbemnfllaaDoor.Mem Go.Proofs.YtahkpcbemnfllaaDoor.Comp
open Go.Proofs.YtahkpcbemnfllaaDoor.Lst (Kp own_below own_lt own_base own_kp own_down)

abbrev put (f : Nat → Value) (k : Nat) (v : Value) : Nat → Value := fun i => if i = k then v else f i
theorem map_put (f : Nat → Value) (k : Nat) (v : Value) : (List.range k).map (put f k v) = (List.range k).map f := List.map_congr_left fun i hi => by
  have := List.mem_range.1 hi
  simp only [put]
  rw [if_neg (by omega)]
section
variable {hv mv lv rv : Nat → Value} {nh nm : Nat → Nat} {A c B d : Nat} {w0 W W' : World} {F : Nat → Ent} {k n1 n2 j1 j2 : Nat} {mo lo l r : Value}
/-- A row outside of those that may be written. -/
theorem own_stay1 (h : Gf w0 24 F W) {q n K : Nat} {v : Value} {y : ByteArray} (hq : q < 24) (hK : K < 11) (hn : ¬ Idx K q) (h2 : (F q).s = 1) (h3 : (F q).v = v) (h4 : (F q).n = n) (h5 : ∀ cs, (F q).φ cs → fh y n cs) : Stay F K W (fun W' => V1 W' v n y) := fun W' hW => by
  obtain ⟨cs, o1, o2⟩ := h.own q hq
  have o3 := own_kp o1 hW (fun g hg ⟨i, hi, hb⟩ => h.ap i q (hi.lt hK) hq (fun e => hn (e ▸ hi)) g hb hg)
  rw [h2, h3, h4] at o3
  obtain ⟨B, c, rfl, _⟩ := own_slice o3
  exact ⟨B, c, rfl, full1_of o3 (h5 cs o2)⟩
theorem own_stay3 (h : Gf w0 24 F W) {q n K : Nat} {v : Value} {y : ByteArray} (hq : q < 24) (hK : K < 11) (hn : ¬ Idx K q) (h2 : (F q).s = 3) (h3 : (F q).v = v) (h4 : (F q).n = n) (h5 : ∀ cs, (F q).φ cs → fm y n cs) : Stay F K W (fun W' => V3 W' v n y) := fun W' hW => by
  obtain ⟨cs, o1, o2⟩ := h.own q hq
  have o3 := own_kp o1 hW (fun g hg ⟨i, hi, hb⟩ => h.ap i q (hi.lt hK) hq (fun e => hn (e ▸ hi)) g hb hg)
  rw [h2, h3, h4] at o3
  obtain ⟨B, c, rfl, _⟩ := own_slice o3
  exact ⟨B, c, rfl, full3_of o3 (h5 cs o2)⟩
/-- The front of such a row. -/
theorem front_stay1 (h : Gf w0 24 F W) {q n m g c K : Nat} {y : ByteArray} (hq : q < 24) (hK : K < 11) (hn : ¬ Idx K q) (h2 : (F q).s = 1) (h3 : (F q).v = .slice (some ⟨g, 0, none⟩) (n + m) c) (h4 : (F q).n = n + m) (h5 : ∀ cs, (F q).φ cs → fh y (n + m) cs) : Stay F K W (fun W' => V1 W' (.slice (some ⟨g, 0, none⟩) n c) n y) := fun W' hW => by
  obtain ⟨cs, o1, o2⟩ := h.own q hq
  have o3 := own_kp o1 hW (fun g hg ⟨i, hi, hb⟩ => h.ap i q (hi.lt hK) hq (fun e => hn (e ▸ hi)) g hb hg)
  rw [h2, h3, h4] at o3
  have hlen := o3.1
  have o4 := o3
  rw [← List.take_append_drop n cs] at o4
  exact ⟨_, _, rfl, full1_of (own_front o4 (by rw [List.length_take]; omega)) (fh_take (h5 cs o2))⟩
theorem front_stay3 (h : Gf w0 24 F W) {q n m g c K : Nat} {y : ByteArray} (hq : q < 24) (hK : K < 11) (hn : ¬ Idx K q) (h2 : (F q).s = 3) (h3 : (F q).v = .slice (some ⟨g, 0, none⟩) (n + m) c) (h4 : (F q).n = n + m) (h5 : ∀ cs, (F q).φ cs → fm y (n + m) cs) : Stay F K W (fun W' => V3 W' (.slice (some ⟨g, 0, none⟩) n c) n y) := fun W' hW => by
  obtain ⟨cs, o1, o2⟩ := h.own q hq
  have o3 := own_kp o1 hW (fun g hg ⟨i, hi, hb⟩ => h.ap i q (hi.lt hK) hq (fun e => hn (e ▸ hi)) g hb hg)
  rw [h2, h3, h4] at o3
  have hlen := o3.1
  have o4 := o3
  rw [← List.take_append_drop (n * 3) cs] at o4
  exact ⟨_, _, rfl, full3_of (own_front o4 (by rw [List.length_take]; omega)) (fm_take (h5 cs o2))⟩
theorem mod_mono : ∀ b, b < W.heap.size → Mod F (k + 1) b → Mod F k b := fun b _ ⟨i, hi, hb⟩ => ⟨i, hi.mono, hb⟩
/-- A round's rows are done. -/
theorem AI.leave (h : AI hv mv nh nm A c B d w0 lv rv mo lo k 64 64 l r F W) (hk : k < 10) : AR hv mv nh nm A c B d w0 (put lv k l) (put rv k r) mo lo (k + 1) k k F W := by
  obtain ⟨e1, e2, e3, e4, e5⟩ := h.ch
  obtain ⟨f1, f2, f3, f4, f5⟩ := h.cm
  refine ⟨fun i h1 h2 => h.h i (by omega) h2, fun i h1 h2 => h.m i (by omega) h2, h.o, h.p, ?_, ?_, h.g, fun i hi => ?_⟩
  · rw [map_put]; exact h.e22
  · rw [map_put]; exact h.e23
  · by_cases hik : i < k
    · have := (h.past i hik).step (Kp.refl _ _) (mod_mono (k := k))
      intro W' hW
      obtain ⟨p1, p2, p3, p4⟩ := this W' hW
      refine ⟨p1, ?_, p3, ?_⟩
      · simp only [put]; rw [if_neg (by omega)]; exact p2
      · simp only [put]; rw [if_neg (by omega)]; exact p4
    · obtain rfl : i = k := by omega
      have n1 : ¬ Idx (i + 1) i := by unfold Idx; omega
      have n2 : ¬ Idx (i + 1) (10 + i) := by unfold Idx; omega
      have s2 := own_stay1 h.g (K := i + 1) (by omega) (by omega) n1 e2 e3 e4 e5
      have s4 := own_stay3 h.g (K := i + 1) (by omega) (by omega) n2 f2 f3 f4 f5
      have s1 : Stay F (i + 1) W (fun W' => V1 W' (hv i) (nh i) (mkA i)) := by
        rcases h.oh with ⟨g0, c0, ha, hl⟩ | hst
        · rw [ha]
          exact front_stay1 h.g (by omega) (by omega) n1 e2 (e3.trans hl) e4 e5
        · exact hst.step (Kp.refl _ _) (mod_mono (k := i))
      have s3 : Stay F (i + 1) W (fun W' => V3 W' (mv i) (nm i) (mkA i)) := by
        rcases h.om with ⟨g0, c0, ha, hl⟩ | hst
        · rw [ha]
          exact front_stay3 h.g (by omega) (by omega) n2 f2 (f3.trans hl) f4 f5
        · exact hst.step (Kp.refl _ _) (mod_mono (k := i))
      intro W' hW
      refine ⟨s1 W' hW, ?_, s3 W' hW, ?_⟩
      · simp only [put, if_true]; exact s2 W' hW
      · simp only [put, if_true]; exact s4 W' hW
/-- append to the outer row of the texts. -/
theorem AR.step22 (h : AR hv mv nh nm A c B d w0 lv rv mo lo k n1 n2 F W) (hk : k < 11) (hn : n1 < 10) (b : Nat) (hb : W.heap[b]? = some (.cells #[lv n1] 22 (0, 0))) (ho : (lv n1).oneCell' = true) (ty : TypeId) :
    ∃ mo' w1, (Builtin.append_ #[88, 88] ty #[mo, .slice (some ⟨b, 0, none⟩) 1 1]).run Tryd.prog W = .ok mo' w1 ∧ ∃ F', AR hv mv nh nm A c B d w0 lv rv mo' lo k (n1 + 1) n2 F' w1 := by
  have hq : Idx k 22 := by unfold Idx; omega
  obtain ⟨g, c1, w1, hr, g1, kp, md, hc⟩ := grow h.g hk hq 88 ty 22 1 24 (.slice none 0 0) Tryd.underlying88 elSS mo n1 1 [lv n1] b (by rw [h.e22]) (by rw [h.e22]) (by rw [h.e22]) (by rw [h.e22]) hb rfl (by simp [ho]) (by omega) (by omega)
    (fun cs => cs = (List.range (n1 + 1)).map lv) (fun cs hl hp => by rw [h.e22] at hp; rw [hp, List.range_succ, List.map_append]; rfl)
  refine ⟨_, w1, hr, _, ⟨fun i h1 h2 => ?_, fun i h1 h2 => ?_, ?_, ?_, ?_, ?_, g1, fun i hi => (h.past i hi).step kp md⟩⟩
  · rw [sub_ne (by omega)]; exact h.h i h1 h2
  · rw [sub_ne (by omega)]; exact h.m i h1 h2
  · rw [sub_ne (by omega)]; exact h.o
  · rw [sub_ne (by omega)]; exact h.p
  · rw [sub_eq]
  · rw [sub_ne (by omega)]; exact h.e23
theorem AR.step23 (h : AR hv mv nh nm A c B d w0 lv rv mo lo k n1 n2 F W) (hk : k < 11) (hn : n2 < 10) (b : Nat) (hb : W.heap[b]? = some (.cells #[rv n2] 40 (0, 0))) (ho : (rv n2).oneCell' = true) (ty : TypeId) :
    ∃ lo' w1, (Builtin.append_ #[89, 89] ty #[lo, .slice (some ⟨b, 0, none⟩) 1 1]).run Tryd.prog W = .ok lo' w1 ∧ ∃ F', AR hv mv nh nm A c B d w0 lv rv mo lo' k n1 (n2 + 1) F' w1 := by
  have hq : Idx k 23 := by unfold Idx; omega
  obtain ⟨g, c1, w1, hr, g1, kp, md, hc⟩ := grow h.g hk hq 89 ty 40 1 24 (.slice none 0 0) Tryd.underlying89 elMM lo n2 1 [rv n2] b (by rw [h.e23]) (by rw [h.e23]) (by rw [h.e23]) (by rw [h.e23]) hb rfl (by simp [ho]) (by omega) (by omega)
    (fun cs => cs = (List.range (n2 + 1)).map rv) (fun cs hl hp => by rw [h.e23] at hp; rw [hp, List.range_succ, List.map_append]; rfl)
  refine ⟨_, w1, hr, _, ⟨fun i h1 h2 => ?_, fun i h1 h2 => ?_, ?_, ?_, ?_, ?_, g1, fun i hi => (h.past i hi).step kp md⟩⟩
  · rw [sub_ne (by omega)]; exact h.h i h1 h2
  · rw [sub_ne (by omega)]; exact h.m i h1 h2
  · rw [sub_ne (by omega)]; exact h.o
  · rw [sub_ne (by omega)]; exact h.p
  · rw [sub_ne (by omega)]; exact h.e22
  · rw [sub_eq]
/-- What the outer rows hold. -/
theorem AR.given (h : AR hv mv nh nm A c B d w0 lv rv mo lo k n1 n2 F W) {i : Nat} (hi : i < 10) : W.cell? ⟨A, i, none⟩ = some (hv i) ∧ W.cell? ⟨B, i, none⟩ = some (mv i) := by
  obtain ⟨cs, o1, o2⟩ := h.g.own 20 (by omega)
  obtain ⟨cs', p1, p2⟩ := h.g.own 21 (by omega)
  rw [h.o] at o1 o2
  rw [h.p] at p1 p2
  have o2 : cs = (List.range 10).map hv := o2
  have p2 : cs' = (List.range 10).map mv := p2
  subst o2 p2
  exact ⟨(row_cells o1 hi).trans (by simp [hi]), (row_cells p1 hi).trans (by simp [hi])⟩
theorem AR.more (h : AR hv mv nh nm A c B d w0 lv rv mo lo k n1 n2 F W) (h1 : 0 < n1) (h2 : 0 < n2) : ∃ G cG H cH, mo = .slice (some ⟨G, 0, none⟩) n1 cG ∧ lo = .slice (some ⟨H, 0, none⟩) n2 cH := by
  obtain ⟨cs, o1, _⟩ := h.g.own 22 (by omega)
  obtain ⟨cs', p1, _⟩ := h.g.own 23 (by omega)
  rw [h.e22] at o1
  rw [h.e23] at p1
  have o1 : W.ownsRow w0.heap.size 22 1 mo n1 cs := o1
  have p1 : W.ownsRow w0.heap.size 40 1 lo n2 cs' := p1
  rcases o1.2 with ⟨_, h0⟩ | ⟨G, cG, _, e, _⟩
  · omega
  rcases p1.2 with ⟨_, h0⟩ | ⟨H, cH, _, e', _⟩
  · omega
  exact ⟨G, cG, H, cH, e, e'⟩
theorem AR.moreAt (h : AR hv mv nh nm A c B d w0 lv rv mo lo k n1 n2 F W) {G cG H cH i : Nat} (e : mo = .slice (some ⟨G, 0, none⟩) n1 cG) (e' : lo = .slice (some ⟨H, 0, none⟩) n2 cH) (hi : i < n1) (hi2 : i < n2) : W.cell? ⟨G, i, none⟩ = some (lv i) ∧ W.cell? ⟨H, i, none⟩ = some (rv i) := by
  obtain ⟨cs, o1, o2⟩ := h.g.own 22 (by omega)
  obtain ⟨cs', p1, p2⟩ := h.g.own 23 (by omega)
  rw [h.e22] at o1 o2
  rw [h.e23] at p1 p2
  have o2 : cs = (List.range n1).map lv := o2
  have p2 : cs' = (List.range n2).map rv := p2
  subst o2 p2 e e'
  exact ⟨(row_cells o1 hi).trans (by simp [hi]), (row_cells p1 hi2).trans (by simp [hi2])⟩
theorem AR.all (h : AR hv mv nh nm A c B d w0 lv rv mo lo k n1 n2 F W) {i : Nat} (hi : i < k) : All4 hv mv lv rv nh nm i W := (h.past i hi).now
theorem AI.shape (h : AI hv mv nh nm A c B d w0 lv rv mo lo k j1 j2 l r F W) (hk : k < 10) : (∃ B c, l = .slice B (nh k + j1) c) ∧ ∃ B c, r = .slice B (nm k + j2) c := by
  obtain ⟨e1, e2, e3, e4, e5⟩ := h.ch
  obtain ⟨f1, f2, f3, f4, f5⟩ := h.cm
  obtain ⟨cs, o1, _⟩ := h.g.own k (by omega)
  obtain ⟨cs', p1, _⟩ := h.g.own (10 + k) (by omega)
  obtain ⟨B1, c1, g1, _⟩ := own_slice o1
  obtain ⟨B2, c2, g2, _⟩ := own_slice p1
  exact ⟨⟨B1, c1, by rw [← e3, g1, e4]⟩, ⟨B2, c2, by rw [← f3, g2, f4]⟩⟩
end
end Go.Proofs.YtahkpcbemnfllaaDoor.Gen
namespace Go.Proofs.YtahkpcbemnfllaaDoor.Gen
open Go.RowKit Go.Proofs.YtahkpcbemnfllaaDoor.Base Go.Proofs.YtahkpcbemnfllaaDoor.Mem Go.Proofs.YtahkpcbemnfllaaDoor.Comp
open Go.Proofs.YtahkpcbemnfllaaDoor.Lst (Kp own_below own_lt own_base own_kp own_down)

section
variable {ops : Array Oper} {rest : List Oper} {o : Oper} {a : Act} {W : World} {Q : Exit → Act → World → Prop}
/-- append, from its run. -/
theorem wpList_appG (hgd : o.guard = none) (s x : Operand) (t : TypeId) (ho : o.op = .call { callee := .builtin .append, args := #[s, x], argTypes := #[t, t] }) (v u : Value) (hs : a.eval s = v) (hx : a.eval x = u) (X : Value → World → Prop)
    (hr : ∃ v' w1, (Builtin.append_ #[t, t] o.type #[v, u]).run Tryd.prog W = .ok v' w1 ∧ X v' w1) (h : ∀ v' w1, X v' w1 → wpList Tryd.prog ops Q rest (a.put o.dst v') w1) : wpList Tryd.prog ops Q (o :: rest) a W := by
  obtain ⟨v', w1, hr, hX⟩ := hr
  refine wpList_plain hgd fun K hK => ?_
  unfold Oper.wp execOp
  simp only [ho, resolve, invoke, builtin, Sem.run_bind, Sem.run_pure, Result.andThen_ok, List.map_toArray, List.map_cons, List.map_nil, hs, hx, hr]
  exact hK _ _ (h v' w1 hX)
end
set_option maxRecDepth 100000 in
set_option maxHeartbeats 4000000 in
theorem apart_calls (hv mv : Nat → Value) (nh nm : Nat → Nat) (A c B d : Nat) (F : Nat → Ent) (w0 w : World) (hs : Sh hv mv nh nm A c B d F) (hg : Gf w0 22 F w) (hn : ∀ k, k < 10 → nh k ≤ 100000 ∧ nm k ≤ 100000) :
    Calls Tryd.prog 47 #[.slice (some ⟨A, 0, none⟩) 10 c, .slice (some ⟨B, 0, none⟩) 10 d] w (fun e w' => e = .returned (.bool true) ∧ Below w0.heap.size w0 w') := by
  have HN := Lib.hid hn
  have HM0 := Lib.hid (A1.start hs hg)
  clear hn hs hg
  go_enter Tryd.func47, Tryd.ntmps47
  go_wp2
  go_loopw [5] (fun s5 wr => ∃ k : Nat, s5 = .int .i64 (k : Int) ∧ k ≤ 10 ∧ Hid (A1 hv mv nh nm A c B d w0 k 0 0 wr)) (fun s5 _ => 10 - (intOf s5).toNat)
  case atStart => exact ⟨0, rfl, by omega, HM0⟩
  case round =>
    clear HM0
    obtain ⟨k, rfl, hk, hr⟩ := hrel
    by_cases hlt : k < 10
    · have hu := u8_of k hlt
      have hcv := conv_of k wr
      have HLK := Lib.hid hlt
      obtain ⟨⟨B0, c0, e0⟩, ⟨B1, c1, e1⟩⟩ := hr.out.shapes hlt
      have HE0 := Lib.hid e0
      have HE1 := Lib.hid e1
      obtain ⟨N, hN⟩ : ∃ N, nh k = N := ⟨_, rfl⟩
      obtain ⟨M, hM⟩ : ∃ M, nm k = M := ⟨_, rfl⟩
      rw [hN] at HE0
      rw [hM] at HE1
      have HNM := Lib.hid (And.intro hN hM)
      have hNb : N ≤ 100000 := by rw [← hN]; exact (HN.out k hlt).1
      have hMb : M ≤ 100000 := by rw [← hM]; exact (HN.out k hlt).2
      obtain ⟨q, hq⟩ : ∃ q : Int, (97 : Int) + (k : Int) = q := ⟨_, rfl⟩
      rw [hq] at hu hcv
      have hom := om_size k
      have hcat : ¬ (9223372036854775807 : Nat) < (⟨#[109, 97, 114, 107]⟩ : ByteArray).size + (om k).size := by rw [hom]; decide
      have hq0 : (0 : Int) ≤ q := by omega
      have hq1 : q < 256 := by omega
      have k0 : (0 : Int) ≤ (k : Int) := by omega
      have k1 : (k : Int) < 10 := by omega
      have HM1 := Lib.hid (hr.out.call (((Below.refl _ wr).alloc (Nat.le_refl _) (.cells #[.int .u8 q] 5))))
      have hX : (⟨A, 0, none⟩ : Addr).add k = ⟨A, k, none⟩ := Arr.add_plain A k 0 |>.trans (by rw [Nat.zero_add])
      have hY : (⟨B, 0, none⟩ : Addr).add k = ⟨B, k, none⟩ := Arr.add_plain B k 0 |>.trans (by rw [Nat.zero_add])
      clear hr e0 e1 hN hM
      go_wp2
      go_loopw [7] (fun s7 wr => ∃ j : Nat, s7 = .int .i64 (j : Int) ∧ j ≤ N ∧ Hid (A1 hv mv nh nm A c B d w0 k j 0 wr)) (fun s7 _ => N - (intOf s7).toNat)
      case atStart => exact ⟨0, rfl, by omega, HM1⟩
      case round =>
        clear HM1 hcv
        obtain ⟨j, rfl, hj, hr⟩ := hrel
        have ck : wr.cell? ⟨A, k, none⟩ = some (.slice B0 N c0) := (hr.out.looks hlt).1.trans (congrArg some HE0.out)
        by_cases hlj : j < N
        · obtain ⟨g, rfl, ⟨u, cu⟩, fr, h2⟩ := hr.out.stepH hlt (by rw [HE0.out, HNM.out.1]) (by rw [HNM.out.1]; exact hlj)
          have HN2 := Lib.hid h2
          have hXj : (⟨g, 0, none⟩ : Addr).add j = ⟨g, j, none⟩ := Arr.add_plain g j 0 |>.trans (by rw [Nat.zero_add])
          have j0 : (0 : Int) ≤ (j : Int) := by omega
          have j1 : (j : Int) < (N : Int) := by omega
          clear hr h2
          go_wp2
          go_roundw
          case rel => exact ⟨j + 1, by go_num, by omega, HN2⟩
          case measure => simp only [intOf]; omega
        · obtain rfl : j = N := by omega
          have HM2 := Lib.hid hr.out
          clear hr
          go_wp2
          go_loopw [8] (fun s8 wr => ∃ i : Nat, s8 = .int .i64 (i : Int) ∧ i ≤ M ∧ Hid (A1 hv mv nh nm A c B d w0 k j i wr)) (fun s8 _ => M - (intOf s8).toNat)
          case atStart => exact ⟨0, rfl, by omega, HM2⟩
          case round =>
            clear HM2 ck
            obtain ⟨i, rfl, hi, hr⟩ := hrel
            have ck : wr.cell? ⟨B, k, none⟩ = some (.slice B1 M c1) := (hr.out.looks hlt).2.trans (congrArg some HE1.out)
            by_cases hli : i < M
            · obtain ⟨g, rfl, ⟨⟨u0, cu0⟩, ⟨u1, cu1⟩, ⟨u2, cu2⟩⟩, frs, h2⟩ := hr.out.stepM hlt (by rw [HE1.out, HNM.out.2]) (by rw [HNM.out.2]; exact hli)
              have HN2 := Lib.hid h2
              have fr0 := frs (i * 3)
              have fr1 := frs (i * 3 + 1)
              have fr2 := frs (i * 3 + 2)
              have hXj : (⟨g, 0, none⟩ : Addr).add (i * 3) = ⟨g, i * 3, none⟩ := Arr.add_plain g (i * 3) 0 |>.trans (by rw [Nat.zero_add])
              have i0 : (0 : Int) ≤ (i : Int) := by omega
              have i1 : (i : Int) < (M : Int) := by omega
              clear hr h2 frs
              go_wp2
              go_roundw
              case rel => exact ⟨i + 1, by go_num, by omega, HN2⟩
              case measure => simp only [intOf]; omega
            · obtain rfl : i = M := by omega
              have h1 := hr.out
              rw [← HNM.out.1, ← HNM.out.2] at h1
              have HNX := Lib.hid h1.next
              clear hr h1
              go_wp2
              go_roundw
              case rel => exact ⟨k + 1, by go_num, by omega, HNX⟩
              case measure => simp only [intOf]; omega
    · obtain rfl : k = 10 := by omega
      have HM1 := Lib.hid hr.out
      clear hr
      go_wp2
      go_loopw [9, 10, 11] (fun s9 s10 s11 wr => ∃ (k : Nat) (mo lo : Value), mo = s9 ∧ lo = s10 ∧ s11 = .int .i64 (k : Int) ∧ k ≤ 10 ∧ Hid (∃ lv rv F, AR hv mv nh nm A c B d w0 lv rv mo lo k k k F wr)) (fun _ _ s11 _ => 10 - (intOf s11).toNat)
      case atStart => exact ⟨0, _, _, rfl, rfl, rfl, by omega, Lib.hid (by obtain ⟨F, h⟩ := AR.start (lv := fun _ => .slice none 0 0) (rv := fun _ => .slice none 0 0) HM1.out; exact ⟨_, _, F, h⟩)⟩
      case round =>
        clear HM1
        obtain ⟨k, mo, lo, rfl, rfl, rfl, hk, hr⟩ := hrel
        obtain ⟨lv, rv, F2, hr⟩ := hr.out
        by_cases hlt : k < 10
        · have hu := u8_of k hlt
          have hcv := conv_of k wr
          have HLK := Lib.hid hlt
          obtain ⟨q, hq⟩ : ∃ q : Int, (97 : Int) + (k : Int) = q := ⟨_, rfl⟩
          rw [hq] at hu hcv
          have hom := om_size k
          have hcat : ¬ (9223372036854775807 : Nat) < (⟨#[109, 97, 114, 107]⟩ : ByteArray).size + (om k).size := by rw [hom]; decide
          have hq0 : (0 : Int) ≤ q := by omega
          have hq1 : q < 256 := by omega
          have k0 : (0 : Int) ≤ (k : Int) := by omega
          have k1 : (k : Int) < 10 := by omega
          have hbel : Below wr.heap.size wr (wr.alloc (.cells #[.int .u8 q] 5)) := (Below.refl _ wr).alloc (Nat.le_refl _) _
          have hr2 := hr.call hbel
          obtain ⟨ck, cj⟩ := hr2.given hlt
          have HI0 := Lib.hid (hr2.enter hlt)
          have hX : (⟨A, 0, none⟩ : Addr).add k = ⟨A, k, none⟩ := Arr.add_plain A k 0 |>.trans (by rw [Nat.zero_add])
          have hY : (⟨B, 0, none⟩ : Addr).add k = ⟨B, k, none⟩ := Arr.add_plain B k 0 |>.trans (by rw [Nat.zero_add])
          have hNb := (HN.out k hlt).1
          have hMb := (HN.out k hlt).2
          clear hr hr2 hbel
          go_wp2
          go_loopw [13, 14, 15] (fun s13 s14 s15 wr => ∃ (j : Nat) (l r : Value), l = s13 ∧ r = s14 ∧ s15 = .int .i64 (j : Int) ∧ j ≤ 64 ∧ Hid (∃ F, AI hv mv nh nm A c B d w0 lv rv mo lo k j j l r F wr)) (fun _ _ s15 _ => 64 - (intOf s15).toNat)
          case atStart => exact ⟨0, _, _, rfl, rfl, rfl, by omega, Lib.hid ⟨_, HI0.out⟩⟩
          case round =>
            clear HI0 ck cj hcv
            obtain ⟨j, l, r, rfl, rfl, rfl, hj, hr⟩ := hrel
            obtain ⟨F3, hr⟩ := hr.out
            by_cases hlj : j < 64
            · have j1 : (j : Int) < 64 := by omega
              have HST := Lib.hid (fun ty => (hr.call ((Below.refl _ wr).alloc (Nat.le_refl _) (.cells #[.string (mkA k)] 9))).stepH hlt wr.heap.size (heap_alloc_new _ _) (by omega) ty)
              clear hr
              go_wp2_with (first
                | (at_builtin; refine wpList_appG rfl (.tmp 88) (.tmp 90) 22 rfl _ _ rfl rfl _ (HST.out _) ?_; intro l2 w1 h1; obtain ⟨F4, h1⟩ := h1; have HSM := Lib.hid (fun ty => (h1.call ((Below.refl _ w1).alloc (Nat.le_refl _) (.cells #[.int .i64 0, .int .i64 0, .string (mkA k)] 54))).stepM HLK.out w1.heap.size (heap_alloc_new _ _) (by have := (HN.out k HLK.out).2; omega) ty); clear h1 HST)
                | (at_builtin; refine wpList_appG rfl (.tmp 92) (.tmp 95) 40 rfl _ _ rfl rfl _ (HSM.out _) ?_; intro r2 w2 h1; have HNX := Lib.hid h1; clear h1 HSM))
              refine ⟨?_, ?_⟩
              · (repeat apply Exists.intro)
                refine ⟨?_, rfl⟩
                exact ⟨j + 1, l2, r2, rfl, rfl, by go_num, by omega, HNX⟩
              · show 64 - ((j : Int) + 1).toNat < 64 - ((j : Nat) : Int).toNat
                omega
            · obtain rfl : j = 64 := by omega
              obtain ⟨⟨B2, c2, rfl⟩, ⟨B3, c3, rfl⟩⟩ := hr.shape hlt
              have hlv := hr.leave hlt
              have e1 : put lv k (.slice B2 (nh k + 64) c2) k = .slice B2 (nh k + 64) c2 := if_pos rfl
              have e2 : put rv k (.slice B3 (nm k + 64) c3) k = .slice B3 (nm k + 64) c3 := if_pos rfl
              obtain ⟨lv2, hlv2⟩ : ∃ f, put lv k (.slice B2 (nh k + 64) c2) = f := ⟨_, rfl⟩
              obtain ⟨rv2, hrv2⟩ : ∃ f, put rv k (.slice B3 (nm k + 64) c3) = f := ⟨_, rfl⟩
              rw [hlv2] at e1 hlv
              rw [hrv2] at e2 hlv
              have HE2 := Lib.hid e2
              have HST := Lib.hid (fun ty => (hlv.call ((Below.refl _ wr).alloc (Nat.le_refl _) (.cells #[.slice B2 (nh k + 64) c2] 22))).step22 (by omega) hlt wr.heap.size (by rw [e1]; exact heap_alloc_new _ _) (by rw [e1]; rfl) ty)
              clear hr hlv e1 e2 hlv2 hrv2
              go_wp2_with (first
                | (at_builtin; refine wpList_appG rfl (.tmp 97) (.tmp 99) 88 rfl _ _ rfl rfl _ (HST.out _) ?_; intro m2 w1 h1; obtain ⟨F4, h1⟩ := h1; have HSM := Lib.hid (fun ty => (h1.call ((Below.refl _ w1).alloc (Nat.le_refl _) (.cells #[.slice B3 (nm k + 64) c3] 40))).step23 (by have := HLK.out; omega) HLK.out w1.heap.size (by rw [HE2.out]; exact heap_alloc_new _ _) (by rw [HE2.out]; rfl) ty); clear h1 HST)
                | (at_builtin; refine wpList_appG rfl (.tmp 101) (.tmp 103) 89 rfl _ _ rfl rfl _ (HSM.out _) ?_; intro m3 w2 h1; have HNX := Lib.hid h1; clear h1 HSM))
              refine ⟨?_, ?_⟩
              · (repeat apply Exists.intro)
                refine ⟨?_, rfl⟩
                exact ⟨k + 1, m2, m3, rfl, rfl, by go_num, by omega, Lib.hid ⟨_, _, HNX.out⟩⟩
              · show 10 - ((k : Int) + 1).toNat < 10 - ((k : Nat) : Int).toNat
                omega
        · obtain rfl : k = 10 := by omega
          obtain ⟨G, cG, H, cH, rfl, rfl⟩ := hr.more (by omega) (by omega)
          have HR0 := Lib.hid hr
          clear hr
          go_wp2
          go_loopw [16] (fun s16 wr => ∃ i : Nat, s16 = .int .i64 (i : Int) ∧ i ≤ 10 ∧ Hid (AR hv mv nh nm A c B d w0 lv rv (.slice (some ⟨G, 0, none⟩) 10 cG) (.slice (some ⟨H, 0, none⟩) 10 cH) 10 10 10 F2 wr)) (fun s16 _ => 10 - (intOf s16).toNat)
          case atStart => exact ⟨0, rfl, by omega, HR0⟩
          case round =>
            clear HR0
            obtain ⟨i, rfl, hi, hr⟩ := hrel
            by_cases hli : i < 10
            · have hNb := (HN.out i hli).1
              have hMb := (HN.out i hli).2
              obtain ⟨⟨B1, c1, v1, f1⟩, ⟨B2, c2, v2, f2⟩, ⟨B3, c3, v3, f3⟩, ⟨B4, c4, v4, f4⟩⟩ := hr.out.all hli
              have HV := Lib.hid (And.intro (And.intro v1 v2) (And.intro v3 v4))
              have HP : Hid (∀ W, Below wr.heap.size wr W → (W.cell? ⟨A, i, none⟩ = some (.slice B1 (nh i) c1) ∧ W.cell? ⟨B, i, none⟩ = some (.slice B3 (nm i) c3)) ∧ (W.cell? ⟨G, i, none⟩ = some (.slice B2 (nh i + 64) c2) ∧ W.cell? ⟨H, i, none⟩ = some (.slice B4 (nm i + 64) c4))) := Lib.hid (fun W hW => by
                have h1 := hr.out.call hW
                obtain ⟨g1, g2⟩ := h1.given hli
                obtain ⟨m1, m2⟩ := h1.moreAt rfl rfl hli hli
                obtain ⟨⟨v1, v2⟩, v3, v4⟩ := HV.out
                exact ⟨⟨g1.trans (congrArg some v1), g2.trans (congrArg some v3)⟩, m1.trans (congrArg some v2), m2.trans (congrArg some v4)⟩)
              have HF1 : Hid (∀ W, Below wr.heap.size wr W → Calls Tryd.prog 59 #[.slice B1 (nh i) c1, .slice B3 (nm i) c3, .int .i64 (i : Int)] W (fun e w' => e = .returned (.bool true) ∧ Below W.heap.size W w')) := Lib.hid (fun W hW => full_calls _ _ _ _ _ _ i W hli (f1.below hW) (f3.below hW) (by omega) (by omega))
              have HF2 : Hid (∀ W, Below wr.heap.size wr W → Calls Tryd.prog 59 #[.slice B2 (nh i + 64) c2, .slice B4 (nm i + 64) c4, .int .i64 (i : Int)] W (fun e w' => e = .returned (.bool true) ∧ Below W.heap.size W w')) := Lib.hid (fun W hW => full_calls _ _ _ _ _ _ i W hli (f2.below hW) (f4.below hW) (by omega) (by omega))
              have HR1 := Lib.hid (fun W hW => hr.out.call (W' := W) hW)
              have i0 : (0 : Int) ≤ (i : Int) := by omega
              have i1 : (i : Int) < 10 := by omega
              have hX : (⟨A, 0, none⟩ : Addr).add i = ⟨A, i, none⟩ := Arr.add_plain A i 0 |>.trans (by rw [Nat.zero_add])
              have hY : (⟨B, 0, none⟩ : Addr).add i = ⟨B, i, none⟩ := Arr.add_plain B i 0 |>.trans (by rw [Nat.zero_add])
              have hZ : (⟨G, 0, none⟩ : Addr).add i = ⟨G, i, none⟩ := Arr.add_plain G i 0 |>.trans (by rw [Nat.zero_add])
              have hU : (⟨H, 0, none⟩ : Addr).add i = ⟨H, i, none⟩ := Arr.add_plain H i 0 |>.trans (by rw [Nat.zero_add])
              have ⟨⟨p1, p2⟩, _⟩ := HP.out wr (Below.refl _ _)
              clear hr v1 v2 v3 v4 f1 f2 f3 f4
              go_wp2_with fail
              go_region_held3 (fun W => W.cell? ⟨A, i, none⟩ = some (.slice B1 (nh i) c1) ∧ W.cell? ⟨B, i, none⟩ = some (.slice B3 (nm i) c3)) (first | exact (HP.out _ (Below.refl _ _).drew).1 | exact (HP.out _ K4).1) ((go_at_call 59; (with_reducible refine (HF1.out _ (by exact (Below.refl _ _).drew)).mono ?_); rintro e w4 ⟨rfl, b4⟩; have K4 : Below wr.heap.size wr w4 := (Below.refl _ wr).drew.trans (b4.mono (Nat.le_refl _)); clear b4))
              have ⟨_, q1, q2⟩ := HP.out w4 K4
              clear p1 p2
              go_wp2_with fail
              go_region_held3 (fun W => W.cell? ⟨G, i, none⟩ = some (.slice B2 (nh i + 64) c2) ∧ W.cell? ⟨H, i, none⟩ = some (.slice B4 (nm i + 64) c4)) (first | exact (HP.out _ K4.drew).2 | exact (HP.out _ K5).2) ((go_at_call 59; (with_reducible refine (HF2.out _ (by exact K4.drew)).mono ?_); rintro e w5 ⟨rfl, b5⟩; have K5 : Below wr.heap.size wr w5 := K4.drew.trans (b5.mono (by have := K4.size; exact this)); clear b5))
              have HN5 := Lib.hid (HR1.out _ K5)
              go_wp2
              refine ⟨?_, ?_⟩
              · (repeat apply Exists.intro)
                refine ⟨?_, rfl⟩
                exact ⟨i + 1, by go_num, by omega, HN5⟩
              · show 10 - ((i : Int) + 1).toNat < 10 - ((i : Nat) : Int).toNat
                omega
            · obtain rfl : i = 10 := by omega
              have HB := Lib.hid hr.out.g.bel
              clear hr
              go_wp2
              go_ret
              exact ⟨rfl, HB.out⟩
end Go.Proofs.YtahkpcbemnfllaaDoor.Gen
namespace Go.Proofs.YtahkpcbemnfllaaDoor.Gen
open Go.RowKit Go.Proofs.YtahkpcbemnfllaaDoor.Base Go.Proofs.YtahkpcbemnfllaaDoor.Mem Go.Proofs.YtahkpcbemnfllaaDoor.Comp
open Go.Proofs.YtahkpcbemnfllaaDoor.Strs (Strs)
open Go.Proofs.YtahkpcbemnfllaaDoor.Lst (Kp own_below own_lt own_base own_kp own_down)

theorem Gf.add2 {w0 W W' : World} {N : Nat} {F : Nat → Ent} (h : Gf w0 N F W) (b : Below W.heap.size W W') (e f : Ent) (o1 : e.ok W.heap.size W') (o2 : f.ok W.heap.size W') (ha : Apart e.v f.v) : Gf w0 (N + 2) (fun i => if i = N then e else if i = N + 1 then f else F i) W' := by
  have hs := h.bel.size
  obtain ⟨cs, p1, p2⟩ := o1
  obtain ⟨ds, q1, q2⟩ := o2
  have hb := h.bel.trans (b.mono hs)
  have hold : ∀ i, i < N → ∀ b, (F i).v.ownBlock = some b → b < W.heap.size := fun i hi b hb => h.lt hi hb
  refine ⟨hb, fun i hi => ?_, fun i j hi hj hij q e1 e2 => ?_⟩
  · by_cases h1 : i = N
    · subst h1
      simp only [if_true]
      exact ⟨cs, own_down p1 hs, p2⟩
    · simp only [if_neg h1]
      by_cases h2 : i = N + 1
      · subst h2
        simp only [if_true]
        exact ⟨ds, own_down q1 hs, q2⟩
      · simp only [if_neg h2]
        exact (h.call b).own i (by omega)
  · have key : ∀ i, i < N + 2 → ((if i = N then e else if i = N + 1 then f else F i : Ent)).v.ownBlock = some q → (i = N ∧ e.v.ownBlock = some q ∧ W.heap.size ≤ q) ∨ (i = N + 1 ∧ f.v.ownBlock = some q ∧ W.heap.size ≤ q) ∨ (i < N ∧ (F i).v.ownBlock = some q ∧ q < W.heap.size) := fun i hi hq => by
      by_cases h1 : i = N
      · rw [if_pos h1] at hq
        exact .inl ⟨h1, hq, own_base p1 q hq⟩
      · rw [if_neg h1] at hq
        by_cases h2 : i = N + 1
        · rw [if_pos h2] at hq
          exact .inr (.inl ⟨h2, hq, own_base q1 q hq⟩)
        · rw [if_neg h2] at hq
          exact .inr (.inr ⟨by omega, hq, hold i (by omega) q hq⟩)
    rcases key i hi e1 with ⟨a1, a2, a3⟩ | ⟨a1, a2, a3⟩ | ⟨a1, a2, a3⟩ <;> rcases key j hj e2 with ⟨b1, b2, b3⟩ | ⟨b1, b2, b3⟩ | ⟨b1, b2, b3⟩
    · omega
    · exact ha q a2 b2
    · omega
    · exact ha q b2 a2
    · omega
    · omega
    · omega
    · omega
    · exact h.ap i j a1 b1 hij q a2 b2
/-- The outer rows (0, 1) with n1, n2 entries; i answers' rows; the boxes of the two frontiers. -/
structure AK (w : World) (ca cb : Array Value) (hv mv : Nat → Value) (nh nm : Nat → Nat) (ho mo : Value) (i n1 n2 : Nat) (F : Nat → Ent) (W : World) : Prop where
  e0 : F 0 = ⟨22, 1, ho, n1, fun cs => cs = (List.range n1).map hv⟩
  e1 : F 1 = ⟨40, 1, mo, n2, fun cs => cs = (List.range n2).map mv⟩
  h : ∀ k, k < i → (F (2 + 2 * k)).E = 9 ∧ (F (2 + 2 * k)).s = 1 ∧ (F (2 + 2 * k)).v = hv k ∧ (F (2 + 2 * k)).n = nh k ∧ nh k ≤ 100000
  m : ∀ k, k < i → (F (3 + 2 * k)).E = 54 ∧ (F (3 + 2 * k)).s = 3 ∧ (F (3 + 2 * k)).v = mv k ∧ (F (3 + 2 * k)).n = nm k ∧ nm k ≤ 100000
  g : Gf w (2 + 2 * i) F W
  ra : Row W w.heap.size ca 24
  rb : Row W (w.heap.size + 1) cb 24
variable {w W W' : World} {ca cb : Array Value} {hv mv : Nat → Value} {nh nm : Nat → Nat} {ho mo : Value} {i n1 n2 : Nat} {F : Nat → Ent}
theorem AK.call (h : AK w ca cb hv mv nh nm ho mo i n1 n2 F W) (b : Below W.heap.size W W') : AK w ca cb hv mv nh nm ho mo i n1 n2 F W' :=
  { h with g := h.g.call b, ra := h.ra.below b h.ra.lt, rb := h.rb.below b h.rb.lt }
theorem AK.start (hb : Below w.heap.size w W) (ra : Row W w.heap.size ca 24) (rb : Row W (w.heap.size + 1) cb 24) : ∃ F, AK w ca cb hv mv nh nm (.slice none 0 0) (.slice none 0 0) 0 0 0 F W := by
  have g1 := (Gf.start hb (fun _ => ⟨0, 0, .slice none 0 0, 0, fun _ => True⟩)).add (Below.refl _ W) ⟨22, 1, .slice none 0 0, 0, fun cs => cs = (List.range 0).map hv⟩ ⟨[], World.ownsRow_nil _ _ _ _, rfl⟩
  have g2 := g1.add (Below.refl _ W) ⟨40, 1, .slice none 0 0, 0, fun cs => cs = (List.range 0).map mv⟩ ⟨[], World.ownsRow_nil _ _ _ _, rfl⟩
  exact ⟨_, ⟨rfl, rfl, fun k hk => absurd hk (by omega), fun k hk => absurd hk (by omega), g2, ra, rb⟩⟩
abbrev putN (f : Nat → Nat) (k v : Nat) : Nat → Nat := fun i => if i = k then v else f i
theorem map_putN (f : Nat → Value) {n k : Nat} (v : Value) (h : n ≤ k) : (List.range n).map (put f k v) = (List.range n).map f := List.map_congr_left fun i hi => by
  have := List.mem_range.1 hi
  simp only [put]
  rw [if_neg (by omega)]
/-- An answer more. -/
theorem AK.add (h : AK w ca cb hv mv nh nm ho mo i n1 n2 F W) (h1 : n1 ≤ i) (h2 : n2 ≤ i) (b : Below W.heap.size W W') {vh vm : Value} {N M : Nat} {cs ds : List Value} (o1 : W'.ownsRow W.heap.size 9 1 vh N cs) (o2 : W'.ownsRow W.heap.size 54 3 vm M ds) (ha : Apart vh vm) (hN : N ≤ 100000) (hM : M ≤ 100000) :
    ∃ F', AK w ca cb (put hv i vh) (put mv i vm) (putN nh i N) (putN nm i M) ho mo (i + 1) n1 n2 F' W' := by
  have g2 := h.g.add2 b ⟨9, 1, vh, N, fun _ => True⟩ ⟨54, 3, vm, M, fun _ => True⟩ ⟨cs, o1, trivial⟩ ⟨ds, o2, trivial⟩ ha
  refine ⟨_, ⟨?_, ?_, fun k hk => ?_, fun k hk => ?_, g2, h.ra.below b h.ra.lt, h.rb.below b h.rb.lt⟩⟩
  · rw [if_neg (by omega), if_neg (by omega), h.e0, map_putN hv vh h1]
  · rw [if_neg (by omega), if_neg (by omega), h.e1, map_putN mv vm h2]
  · by_cases hki : k = i
    · subst hki
      rw [if_pos rfl]
      simp only [put, putN, if_true]
      exact ⟨trivial, trivial, trivial, trivial, hN⟩
    · rw [if_neg (by omega), if_neg (by omega)]
      simp only [put, putN, if_neg hki]
      exact h.h k (by omega)
  · by_cases hki : k = i
    · subst hki
      rw [if_neg (by omega), if_pos (by omega)]
      simp only [put, putN, if_true]
      exact ⟨trivial, trivial, trivial, trivial, hM⟩
    · rw [if_neg (by omega), if_neg (by omega)]
      simp only [put, putN, if_neg hki]
      exact h.m k (by omega)
theorem row_grown {p : Nat} {cs : Array Value} {t : TypeId} {g : Nat} (h : Row W p cs t) (hg : W.grownBy W' (some g)) (hn : p ≠ g) : Row W' p cs t := h.kept hg (fun e => hn (Option.some.inj e))
theorem AK.step0 (h : AK w ca cb hv mv nh nm ho mo i n1 n2 F W) (hn : n1 < 1000) (b : Nat) (hb : W.heap[b]? = some (.cells #[hv n1] 22 (0, 0))) (hone : (hv n1).oneCell' = true) (ty : TypeId) :
    ∃ ho' w1, (Builtin.append_ #[88, 88] ty #[ho, .slice (some ⟨b, 0, none⟩) 1 1]).run Tryd.prog W = .ok ho' w1 ∧ ∃ F', AK w ca cb hv mv nh nm ho' mo i (n1 + 1) n2 F' w1 := by
  obtain ⟨cs, o1, o2⟩ := h.g.own 0 (by omega)
  rw [h.e0] at o1 o2
  have o1 : W.ownsRow w.heap.size 22 1 ho n1 cs := o1
  have o2 : cs = (List.range n1).map hv := o2
  obtain ⟨g, c, w1, hr, o3, hc⟩ := run_appG 88 ty 22 1 24 (.slice none 0 0) Tryd.underlying88 elSS w.heap.size ho n1 1 cs [hv n1] b o1 hb rfl (by simp [hone]) (by omega) h.g.bel.size (by omega)
  have hg := h.g.swap (k := 0) (by omega) ⟨22, 1, .slice (some ⟨g, 0, none⟩) (n1 + 1) c, n1 + 1, fun cs => cs = (List.range (n1 + 1)).map hv⟩ (W' := w1) ⟨_, o3, by rw [o2, List.range_succ, List.map_append]; rfl⟩ (by
    rw [h.e0]
    rcases hc with ⟨h1, h2⟩ | ⟨h1, h2⟩
    · left
      have e : ho.ownBlock = some g := by rw [h1]; rfl
      exact ⟨by show W.grownBy w1 ho.ownBlock; rw [e]; exact h2, by show _ = ho.ownBlock; rw [e]; rfl⟩
    · right
      refine ⟨h2, fun b hb => ?_⟩
      simp only [Value.ownBlock, Option.some.injEq] at hb
      omega)
  have hrow : ∀ p cs t, t ≠ 22 → Row W p cs t → Row w1 p cs t := fun p cs t ht hrp => by
    rcases hc with ⟨h1, h2⟩ | ⟨h1, h2⟩
    · obtain ⟨c2, r2⟩ := own_row o1 (g := g) (by rw [h1]; rfl)
      exact row_grown hrp h2 (ne_of_type hrp r2 ht)
    · exact hrp.below h2 hrp.lt
  refine ⟨_, w1, hr, _, ⟨?_, ?_, fun k hk => ?_, fun k hk => ?_, hg, hrow _ _ _ (by decide) h.ra, hrow _ _ _ (by decide) h.rb⟩⟩
  · rw [if_pos rfl]
  · rw [if_neg (by omega)]; exact h.e1
  · rw [if_neg (by omega)]; exact h.h k hk
  · rw [if_neg (by omega)]; exact h.m k hk
theorem AK.step1 (h : AK w ca cb hv mv nh nm ho mo i n1 n2 F W) (hn : n2 < 1000) (b : Nat) (hb : W.heap[b]? = some (.cells #[mv n2] 40 (0, 0))) (hone : (mv n2).oneCell' = true) (ty : TypeId) :
    ∃ mo' w1, (Builtin.append_ #[89, 89] ty #[mo, .slice (some ⟨b, 0, none⟩) 1 1]).run Tryd.prog W = .ok mo' w1 ∧ ∃ F', AK w ca cb hv mv nh nm ho mo' i n1 (n2 + 1) F' w1 := by
  obtain ⟨cs, o1, o2⟩ := h.g.own 1 (by omega)
  rw [h.e1] at o1 o2
  have o1 : W.ownsRow w.heap.size 40 1 mo n2 cs := o1
  have o2 : cs = (List.range n2).map mv := o2
  obtain ⟨g, c, w1, hr, o3, hc⟩ := run_appG 89 ty 40 1 24 (.slice none 0 0) Tryd.underlying89 elMM w.heap.size mo n2 1 cs [mv n2] b o1 hb rfl (by simp [hone]) (by omega) h.g.bel.size (by omega)
  have hg := h.g.swap (k := 1) (by omega) ⟨40, 1, .slice (some ⟨g, 0, none⟩) (n2 + 1) c, n2 + 1, fun cs => cs = (List.range (n2 + 1)).map mv⟩ (W' := w1) ⟨_, o3, by rw [o2, List.range_succ, List.map_append]; rfl⟩ (by
    rw [h.e1]
    rcases hc with ⟨h1, h2⟩ | ⟨h1, h2⟩
    · left
      have e : mo.ownBlock = some g := by rw [h1]; rfl
      exact ⟨by show W.grownBy w1 mo.ownBlock; rw [e]; exact h2, by show _ = mo.ownBlock; rw [e]; rfl⟩
    · right
      refine ⟨h2, fun b hb => ?_⟩
      simp only [Value.ownBlock, Option.some.injEq] at hb
      omega)
  have hrow : ∀ p cs t, t ≠ 40 → Row W p cs t → Row w1 p cs t := fun p cs t ht hrp => by
    rcases hc with ⟨h1, h2⟩ | ⟨h1, h2⟩
    · obtain ⟨c2, r2⟩ := own_row o1 (g := g) (by rw [h1]; rfl)
      exact row_grown hrp h2 (ne_of_type hrp r2 ht)
    · exact hrp.below h2 hrp.lt
  refine ⟨_, w1, hr, _, ⟨?_, ?_, fun k hk => ?_, fun k hk => ?_, hg, hrow _ _ _ (by decide) h.ra, hrow _ _ _ (by decide) h.rb⟩⟩
  · rw [if_neg (by omega)]; exact h.e0
  · rw [if_pos rfl]
  · rw [if_neg (by omega)]; exact h.h k hk
  · rw [if_neg (by omega)]; exact h.m k hk
/-- The order in which apart sees the rows. -/
def sig (k : Nat) : Nat := if k < 10 then 2 + 2 * k else if k < 20 then 3 + 2 * (k - 10) else if k = 20 then 0 else 1
theorem AK.done (h : AK w ca cb hv mv nh nm ho mo 10 10 10 F W) : ∃ A c B d F', ho = .slice (some ⟨A, 0, none⟩) 10 c ∧ mo = .slice (some ⟨B, 0, none⟩) 10 d ∧ Sh hv mv nh nm A c B d F' ∧ Gf w 22 F' W ∧ ∀ k, k < 10 → nh k ≤ 100000 ∧ nm k ≤ 100000 := by
  obtain ⟨cs, o1, _⟩ := h.g.own 0 (by omega)
  obtain ⟨cs', p1, _⟩ := h.g.own 1 (by omega)
  rw [h.e0] at o1
  rw [h.e1] at p1
  have o1 : W.ownsRow w.heap.size 22 1 ho 10 cs := o1
  have p1 : W.ownsRow w.heap.size 40 1 mo 10 cs' := p1
  rcases o1.2 with ⟨_, h0⟩ | ⟨A, c, _, rfl, _⟩
  · omega
  rcases p1.2 with ⟨_, h0⟩ | ⟨B, d, _, rfl, _⟩
  · omega
  refine ⟨A, c, B, d, fun k => F (sig k), rfl, rfl, ⟨fun k hk => ?_, fun k hk => ?_, h.e0, h.e1⟩, h.g.pick 22 sig (fun k hk => ?_) (fun i j hi hj e => ?_), fun k hk => ⟨(h.h k hk).2.2.2.2, (h.m k hk).2.2.2.2⟩⟩
  · obtain ⟨a, b, c, d, _⟩ := h.h k hk
    have e : sig k = 2 + 2 * k := if_pos hk
    simp only [e]
    exact ⟨a, b, c, d⟩
  · obtain ⟨a, b, c, d, _⟩ := h.m k hk
    have e : sig (10 + k) = 3 + 2 * k := by unfold sig; rw [if_neg (by omega), if_pos (by omega)]; omega
    simp only [e]
    exact ⟨a, b, c, d⟩
  · unfold sig; split
    · omega
    · split
      · omega
      · split <;> omega
  · unfold sig at e
    repeat' split at e
    all_goals omega
/-- An answer, with what the caller then owns. -/
theorem ans_own {lo hi z : Int} {hs : List ByteArray} {md : List Md} {w w' : World} {e : Ending} (h : Ans lo hi z hs md w e w') : ∃ B1 N1 c1 B2 N2 c2, e = .returned (.tuple #[fv lo hi B1 N1 c1, .slice B2 N2 c2, .int .i64 z]) ∧ Strs w' B1 N1 hs ∧ Mds w' B2 N2 md ∧ N1 = hs.length ∧ N2 = md.length ∧ Below w.heap.size w w' ∧
    (∃ cs, w'.ownsRow w.heap.size 9 1 (.slice B1 N1 c1) N1 cs) ∧ (∃ ds, w'.ownsRow w.heap.size 54 3 (.slice B2 N2 c2) N2 ds) ∧ Apart (.slice B1 N1 c1) (.slice B2 N2 c2) := by
  obtain ⟨vh, vm, rfl, oh, om, ha, b⟩ := h
  obtain ⟨B1, c1, rfl, _, hs1⟩ := oh.shape
  obtain ⟨B2, c2, rfl, _, hm2, _⟩ := own_mds om
  exact ⟨B1, _, c1, B2, _, c2, rfl, hs1, hm2, rfl, rfl, b, ⟨_, oh⟩, ⟨_, om⟩, ha⟩
end Go.Proofs.YtahkpcbemnfllaaDoor.Gen
namespace Go.Proofs.YtahkpcbemnfllaaDoor.Gen
open Go.RowKit Go.Proofs.YtahkpcbemnfllaaDoor.Base Go.Proofs.YtahkpcbemnfllaaDoor.Mem Go.Proofs.YtahkpcbemnfllaaDoor.Comp
open Go.Proofs.YtahkpcbemnfllaaDoor.Strs (Strs)
open Go.Proofs.YtahkpcbemnfllaaDoor.Lst (Kp own_below own_lt own_base own_kp own_down)

def nilE : Ent := ⟨9, 1, .slice none 0 0, 0, fun _ => True⟩
abbrev at_ (es : List Ent) (i : Nat) : Ent := (es[i]?).getD nilE
structure GL (w : World) (es : List Ent) (bs : List (Nat × Array Value)) (W : World) : Prop where
  g : Gf w es.length (at_ es) W
  r : ∀ p ∈ bs, Row W p.1 p.2 24
  t : ∀ e ∈ es, 24 ≠ e.E
variable {w W W' : World} {es : List Ent} {bs : List (Nat × Array Value)} {k : Nat} {e e' f : Ent}
theorem Gf.fun_eq {w0 : World} {N : Nat} {F G : Nat → Ent} (h : Gf w0 N F W) (he : ∀ i, i < N → G i = F i) : Gf w0 N G W :=
  h.as G (fun i hi => by rw [he i hi]; exact ⟨rfl, id⟩)
theorem GL.start (h : Below w.heap.size w W) (hr : ∀ p ∈ bs, Row W p.1 p.2 24) : GL w [] bs W := ⟨Gf.start h _, hr, fun e he => absurd he (by simp)⟩
theorem GL.call (h : GL w es bs W) (b : Below W.heap.size W W') : GL w es bs W' := ⟨h.g.call b, fun p hp => (h.r p hp).below b (h.r p hp).lt, h.t⟩
theorem GL.box (h : GL w es bs W) (cs : Array Value) : GL w es (bs ++ [(W.heap.size, cs)]) (W.alloc (.cells cs 24)) := by
  have b := (Below.refl _ W).alloc (Nat.le_refl _) (.cells cs 24)
  have h2 := h.call b
  refine ⟨h2.g, fun p hp => ?_, h.t⟩
  rcases List.mem_append.1 hp with hp | hp
  · exact h2.r p hp
  · rw [List.mem_singleton.1 hp]
    exact Row.new _ _ _
theorem GL.ok (h : GL w es bs W) (hk : es[k]? = some e) : e.ok w.heap.size W := by
  have hl := (List.getElem?_eq_some_iff.1 hk).1
  have h1 := h.g.own k hl
  simp only [at_, hk, Option.getD_some] at h1
  exact h1
theorem GL.kept (h : GL w es bs W) (hk : es[k]? = some e) (g : W.grownBy W' e.v.ownBlock) : ∀ p ∈ bs, Row W' p.1 p.2 24 := fun p hp => by
  obtain ⟨cs, o1, _⟩ := h.ok hk
  refine (h.r p hp).kept g (fun e1 => ?_)
  obtain ⟨c, r2⟩ := own_row o1 e1.symm
  exact ne_of_type (h.r p hp) r2 (h.t e (List.mem_of_getElem? hk)) rfl
theorem GL.add2 (h : GL w es bs W) (b : Below W.heap.size W W') (o1 : e.ok W.heap.size W') (o2 : f.ok W.heap.size W') (ha : Apart e.v f.v) (te : 24 ≠ e.E) (tf : 24 ≠ f.E) : GL w (es ++ [e, f]) bs W' := by
  refine ⟨?_, (h.call b).r, fun x hx => ?_⟩
  · have h1 := h.g.add2 b e f o1 o2 ha
    rw [show (es ++ [e, f]).length = es.length + 2 by simp]
    refine h1.fun_eq fun i hi => ?_
    simp only [at_]
    by_cases hi1 : i = es.length
    · subst hi1; simp
    · by_cases hi2 : i = es.length + 1
      · subst hi2; simp
      · rw [if_neg hi1, if_neg hi2, List.getElem?_append_left (by omega)]
  · rcases List.mem_append.1 hx with hx | hx
    · exact h.t x hx
    · simp only [List.mem_cons, List.not_mem_nil, or_false] at hx
      rcases hx with rfl | rfl
      · exact te
      · exact tf
theorem GL.push (h : GL w es bs W) (b : Below W.heap.size W W') (o : e.ok W.heap.size W') (te : 24 ≠ e.E) : GL w (es ++ [e]) bs W' := by
  refine ⟨?_, (h.call b).r, fun x hx => ?_⟩
  · have h1 := h.g.add b e o
    rw [show (es ++ [e]).length = es.length + 1 by simp]
    refine h1.fun_eq fun i hi => ?_
    simp only [at_]
    by_cases hi1 : i = es.length
    · subst hi1; simp
    · rw [if_neg hi1, List.getElem?_append_left (by omega)]
  · rcases List.mem_append.1 hx with hx | hx
    · exact h.t x hx
    · rw [List.mem_singleton.1 hx]
      exact te
theorem GL.set (h : GL w es bs W) (hk : es[k]? = some e) (o : e'.ok w.heap.size W') (g : W.grownBy W' e.v.ownBlock) (hv : e'.v.ownBlock = e.v.ownBlock) (te : 24 ≠ e'.E) : GL w (es.set k e') bs W' := by
  have hl := (List.getElem?_eq_some_iff.1 hk).1
  have hat : at_ es k = e := by simp only [at_, hk, Option.getD_some]
  refine ⟨?_, h.kept hk g, fun x hx => ?_⟩
  · have h1 := h.g.swap hl e' o (.inl (by rw [hat]; exact ⟨g, hv⟩))
    rw [List.length_set]
    refine h1.fun_eq fun i hi => ?_
    simp only [at_, List.getElem?_set]
    by_cases hik : i = k
    · subst hik; simp [hl]
    · rw [if_neg (fun e => hik e.symm), if_neg hik]
  · rcases List.mem_or_eq_of_mem_set hx with hx | rfl
    · exact h.t x hx
    · exact te
theorem tyS : 24 ≠ 9 := by decide
theorem tyM : 24 ≠ 54 := by decide
/-! ### kinds of entries -/
abbrev txE (v : Value) (n : Nat) (y : ByteArray) (j : Nat) : Ent := ⟨9, 1, v, n, fh y j⟩
abbrev ndE (v : Value) (n : Nat) (y : ByteArray) (j : Nat) : Ent := ⟨54, 3, v, n, fm y j⟩
abbrev isE (v : Value) (l : List ByteArray) : Ent := ⟨9, 1, v, l.length, fun cs => cs = Strs.sv l⟩
abbrev imE (v : Value) (l : List Md) : Ent := ⟨54, 3, v, l.length, fun cs => cs = mdc l⟩
theorem GL.strs {B : Option Addr} {n c : Nat} {l : List ByteArray} (h : GL w es bs W) (hk : es[k]? = some (isE (.slice B n c) l)) : Strs W B n l := by
  obtain ⟨cs, o1, o2⟩ := h.ok hk
  have o2 : cs = Strs.sv l := o2
  subst o2
  have o1 : Strs.Own W w.heap.size (.slice B n c) l := o1
  obtain ⟨B', c', e, _, hs⟩ := o1.shape
  simp only [Value.slice.injEq] at e
  obtain ⟨rfl, rfl, rfl⟩ := e
  exact hs
theorem GL.mds {B : Option Addr} {n c : Nat} {l : List Md} (h : GL w es bs W) (hk : es[k]? = some (imE (.slice B n c) l)) : Mds W B n l := by
  obtain ⟨cs, o1, o2⟩ := h.ok hk
  have o2 : cs = mdc l := o2
  subst o2
  have o1 : OwnM W w.heap.size (.slice B n c) l := o1
  obtain ⟨B', c', e, _, hs, _⟩ := own_mds o1
  simp only [Value.slice.injEq] at e
  obtain ⟨rfl, rfl, rfl⟩ := e
  exact hs
theorem GL.at (h : GL w es bs W) {b : Nat} {cs : Array Value} (hk : bs[k]? = some (b, cs)) : Row W b cs 24 := h.r (b, cs) (List.mem_of_getElem? hk)
theorem GL.weak (h : GL w es bs W) (hk : es[k]? = some e) (e' : Ent) (hv : e'.v = e.v) (hE : e'.E = e.E) (ho : ∀ b, e.ok b W → e'.ok b W) : GL w (es.set k e') bs W :=
  h.set hk (ho _ (h.ok hk)) (Grew.of_below (Below.refl _ W) _) (by rw [hv]) (by rw [hE]; exact h.t _ (List.mem_of_getElem? hk))
theorem GL.weakH {v : Value} {l : List ByteArray} {n : Nat} (h : GL w es bs W) (hk : es[k]? = some (isE v l)) (hn : n = l.length) (y : ByteArray) : GL w (es.set k (txE v n y 0)) bs W :=
  h.weak hk _ rfl rfl (fun b o => by
    obtain ⟨cs, o1, _⟩ := o
    subst hn
    exact ⟨cs, o1, fun i hi => absurd hi (by omega)⟩)
theorem GL.weakM {v : Value} {l : List Md} {n : Nat} (h : GL w es bs W) (hk : es[k]? = some (imE v l)) (hn : n = l.length) (y : ByteArray) : GL w (es.set k (ndE v n y 0)) bs W :=
  h.weak hk _ rfl rfl (fun b o => by
    obtain ⟨cs, o1, _⟩ := o
    subst hn
    exact ⟨cs, o1, fun i hi => absurd hi (by omega)⟩)
theorem GL.ans {lo hi z : Int} {hs : List ByteArray} {md : List Md} {x : Ending} (h : GL w es bs W) (hA : Ans lo hi z hs md W x W') : ∃ B1 N1 c1 B2 N2 c2, x = .returned (.tuple #[fv lo hi B1 N1 c1, .slice B2 N2 c2, .int .i64 z]) ∧ N1 = hs.length ∧ N2 = md.length ∧
    GL w (es ++ [isE (.slice B1 N1 c1) hs, imE (.slice B2 N2 c2) md]) bs W' := by
  obtain ⟨vh, vm, rfl, oh, om, ha, b⟩ := hA
  obtain ⟨B1, c1, rfl, _, _⟩ := oh.shape
  obtain ⟨B2, c2, rfl, _, _, _⟩ := own_mds om
  exact ⟨B1, _, c1, B2, _, c2, rfl, rfl, rfl, h.add2 b ⟨_, oh, rfl⟩ ⟨_, om, rfl⟩ ha tyS tyM⟩
theorem v1_get {B : Option Addr} {n m c : Nat} {y : ByteArray} (h : V1 W (.slice B n c) m y) : Full1 W B m y := by
  obtain ⟨B', c', e, h⟩ := h
  simp only [Value.slice.injEq] at e
  obtain ⟨rfl, rfl, rfl⟩ := e
  exact h
theorem v3_get {B : Option Addr} {n m c : Nat} {y : ByteArray} (h : V3 W (.slice B n c) m y) : Full3 W B m y := by
  obtain ⟨B', c', e, h⟩ := h
  simp only [Value.slice.injEq] at e
  obtain ⟨rfl, rfl, rfl⟩ := e
  exact h
/-- One text is written. -/
theorem GL.fillH {B : Option Addr} {n c j : Nat} {y : ByteArray} (h : GL w es bs W) (hk : es[k]? = some (txE (.slice B n c) n y j)) (hj : j < n) :
    ∃ g, B = some ⟨g, 0, none⟩ ∧ (∃ u, W.cell? ⟨g, j, none⟩ = some u) ∧ W.frozen? ⟨g, j, none⟩ = false ∧ GL w (es.set k (txE (.slice B n c) n y (j + 1))) bs (W.setCell ⟨g, j, none⟩ (.string y)) := by
  obtain ⟨cs, o1, o2⟩ := h.ok hk
  have o1 : W.ownsRow w.heap.size 9 1 (.slice B n c) n cs := o1
  have o2 : fh y j cs := o2
  obtain ⟨g, rfl, _, _, _⟩ := own_block o1 (by omega)
  obtain ⟨c1, c2, p1, f1, g1⟩ := fill1 o1 o2 hj
  exact ⟨g, rfl, c1, c2, h.set hk ⟨_, p1, f1⟩ g1 rfl tyS⟩
/-- One node is written. -/
theorem GL.fillM {B : Option Addr} {n c j : Nat} {y : ByteArray} (h : GL w es bs W) (hk : es[k]? = some (ndE (.slice B n c) n y j)) (hj : j < n) :
    ∃ g, B = some ⟨g, 0, none⟩ ∧ ((∃ u, W.cell? ⟨g, j * 3, none⟩ = some u) ∧ (∃ u, W.cell? ⟨g, j * 3 + 1, none⟩ = some u) ∧ (∃ u, W.cell? ⟨g, j * 3 + 2, none⟩ = some u)) ∧ (∀ q, W.frozen? ⟨g, q, none⟩ = false) ∧
      GL w (es.set k (ndE (.slice B n c) n y (j + 1))) bs (((W.setCell ⟨g, j * 3, none⟩ (.int .i64 0)).setCell ⟨g, j * 3 + 1, none⟩ (.int .i64 0)).setCell ⟨g, j * 3 + 2, none⟩ (.string y)) := by
  obtain ⟨cs, o1, o2⟩ := h.ok hk
  have o1 : W.ownsRow w.heap.size 54 3 (.slice B n c) n cs := o1
  have o2 : fm y j cs := o2
  obtain ⟨g, rfl, _, _, _⟩ := own_block o1 (by omega)
  obtain ⟨c1, c2, cs', p1, f1, g1⟩ := fill3 o1 o2 hj
  exact ⟨g, rfl, c1, c2, h.set hk ⟨_, p1, f1⟩ g1 rfl tyM⟩
/-! ### what grows beyond itself -/
def F1 (v : Value) (n : Nat) (v' : Value) (n' : Nat) (y : ByteArray) (e e' : Ent) : Prop := ∀ b W, e.ok b W → e'.ok b W → V1 W v n y ∧ V1 W v' n' y
def F3 (v : Value) (n : Nat) (v' : Value) (n' : Nat) (y : ByteArray) (e e' : Ent) : Prop := ∀ b W, e.ok b W → e'.ok b W → V3 W v n y ∧ V3 W v' n' y
theorem fh_app {y : ByteArray} {n m : Nat} {cs ys : List Value} (h : fh y n cs) (hl : cs.length = n) (hy : fh y m ys) : fh y (n + m) (cs ++ ys) := fun i hi => by
  by_cases hin : i < n
  · rw [List.getElem?_append_left (by omega)]; exact h i hin
  · rw [List.getElem?_append_right (by omega), hl]; exact hy _ (by omega)
theorem fm_app {y : ByteArray} {n m : Nat} {cs ys : List Value} (h : fm y n cs) (hl : cs.length = n * 3) (hy : fm y m ys) : fm y (n + m) (cs ++ ys) := fun i hi => by
  by_cases hin : i < n
  · rw [List.getElem?_append_left (by omega)]; exact h i hin
  · rw [List.getElem?_append_right (by omega), hl, show i * 3 + 2 - n * 3 = (i - n) * 3 + 2 by omega]; exact hy _ (by omega)
theorem v1_of {b n m c g : Nat} {y : ByteArray} (o : (txE (.slice (some ⟨g, 0, none⟩) (n + m) c) (n + m) y (n + m)).ok b W) : V1 W (.slice (some ⟨g, 0, none⟩) n c) n y ∧ V1 W (.slice (some ⟨g, 0, none⟩) (n + m) c) (n + m) y := by
  obtain ⟨cs, o1, o2⟩ := o
  have o1 : W.ownsRow b 9 1 (.slice (some ⟨g, 0, none⟩) (n + m) c) (n + m) cs := o1
  have o2 : fh y (n + m) cs := o2
  have hl := o1.1
  have e : cs = cs.take n ++ cs.drop n := (List.take_append_drop n cs).symm
  have o3 := o1
  rw [e] at o3
  have o4 := own_front o3 (by simp; omega)
  exact ⟨⟨_, _, rfl, full1_of o4 (fun i hi => by rw [List.getElem?_take, if_pos hi]; exact o2 i (by omega))⟩, ⟨_, _, rfl, full1_of o1 o2⟩⟩
theorem v3_of {b n m c g : Nat} {y : ByteArray} (o : (ndE (.slice (some ⟨g, 0, none⟩) (n + m) c) (n + m) y (n + m)).ok b W) : V3 W (.slice (some ⟨g, 0, none⟩) n c) n y ∧ V3 W (.slice (some ⟨g, 0, none⟩) (n + m) c) (n + m) y := by
  obtain ⟨cs, o1, o2⟩ := o
  have o1 : W.ownsRow b 54 3 (.slice (some ⟨g, 0, none⟩) (n + m) c) (n + m) cs := o1
  have o2 : fm y (n + m) cs := o2
  have hl := o1.1
  have e : cs = cs.take (n * 3) ++ cs.drop (n * 3) := (List.take_append_drop (n * 3) cs).symm
  have o3 := o1
  rw [e] at o3
  have o4 := own_front o3 (by simp; omega)
  exact ⟨⟨_, _, rfl, full3_of o4 (fun i hi => by rw [List.getElem?_take, if_pos (by omega)]; exact o2 i (by omega))⟩, ⟨_, _, rfl, full3_of o1 o2⟩⟩
theorem v1_one {b n : Nat} {v : Value} {y : ByteArray} (o : (txE v n y n).ok b W) : V1 W v n y := by
  obtain ⟨cs, o1, o2⟩ := o
  have o1 : W.ownsRow b 9 1 v n cs := o1
  obtain ⟨B, c, rfl, _⟩ := own_slice o1
  exact ⟨_, _, rfl, full1_of o1 o2⟩
theorem v3_one {b n : Nat} {v : Value} {y : ByteArray} (o : (ndE v n y n).ok b W) : V3 W v n y := by
  obtain ⟨cs, o1, o2⟩ := o
  have o1 : W.ownsRow b 54 3 v n cs := o1
  obtain ⟨B, c, rfl, _⟩ := own_slice o1
  exact ⟨_, _, rfl, full3_of o1 o2⟩
theorem own_up {base base' E s n m c g : Nat} {cs : List Value} (h : W.ownsRow base E s (.slice (some ⟨g, 0, none⟩) m c) n cs) (hg : base' ≤ g) : W.ownsRow base' E s (.slice (some ⟨g, 0, none⟩) m c) n cs := by
  refine ⟨h.1, ?_⟩
  rcases h.2 with ⟨h0, _⟩ | ⟨g', cap, cur, e1, hb, rest⟩
  · cases h0
  · have e2 : g = g' := by simp only [Value.slice.injEq, Option.some.injEq, Addr.mk.injEq] at e1; exact e1.1.1
    exact .inr ⟨g', cap, cur, e1, by omega, rest⟩
theorem GL.growH {v : Value} {n m : Nat} {y : ByteArray} {ys : List Value} (h : GL w es bs W) (hk : es[k]? = some (txE v n y n)) (b : Nat) (hb : W.heap[b]? = some (.cells ys.toArray 9 (0, 0))) (hl : ys.length = m) (h1 : ∀ u ∈ ys, u.oneCell' = true) (hm : 0 < m) (hy : fh y m ys) (hn : n + m ≤ 1000000) (ty : TypeId) :
    ∃ v' w1, (Builtin.append_ #[22, 22] ty #[v, .slice (some ⟨b, 0, none⟩) m m]).run Tryd.prog W = .ok v' w1 ∧ ∃ B' c', v' = .slice B' (n + m) c' ∧ ∃ e e', GL w (es.set k e ++ [e']) bs w1 ∧ F1 v n v' (n + m) y e e' := by
  obtain ⟨cs, o1, o2⟩ := h.ok hk
  have o1 : W.ownsRow w.heap.size 9 1 v n cs := o1
  have o2 : fh y n cs := o2
  have hE := h.t _ (List.mem_of_getElem? hk)
  have hcl : cs.length = n := by have := o1.1; omega
  obtain ⟨g, c, w1, hr, o3, hc⟩ := run_appG 22 ty 9 1 16 (.string ⟨#[]⟩) Tryd.underlying22 elS w.heap.size v n m cs ys b o1 hb (by omega) h1 hm h.g.bel.size (by omega)
  have f2 := fh_app o2 hcl hy
  refine ⟨_, w1, hr, _, _, rfl, ?_⟩
  rcases hc with ⟨rfl, h2⟩ | ⟨h2, h3⟩
  · refine ⟨txE (.slice (some ⟨g, 0, none⟩) (n + m) c) (n + m) y (n + m), nilE, ?_, fun b' W' p1 _ => v1_of p1⟩
    have h4 := h.set hk (e' := txE (.slice (some ⟨g, 0, none⟩) (n + m) c) (n + m) y (n + m)) ⟨_, o3, f2⟩ h2 rfl hE
    exact h4.push (Below.refl _ w1) ⟨[], World.ownsRow_nil _ _ _ _, trivial⟩ (by decide)
  · refine ⟨txE v n y n, txE (.slice (some ⟨g, 0, none⟩) (n + m) c) (n + m) y (n + m), ?_, fun b' W' p1 p2 => ⟨v1_one p1, v1_one p2⟩⟩
    have e0 : es.set k (txE v n y n) = es := by
      obtain ⟨hl, he⟩ := List.getElem?_eq_some_iff.1 hk
      rw [← he, List.set_getElem_self]
    rw [e0]
    refine h.push h3 ⟨_, ?_, f2⟩ hE
    exact own_up o3 h2
theorem GL.growM {v : Value} {n m : Nat} {y : ByteArray} {ys : List Value} (h : GL w es bs W) (hk : es[k]? = some (ndE v n y n)) (b : Nat) (hb : W.heap[b]? = some (.cells ys.toArray 54 (0, 0))) (hl : ys.length = m * 3) (h1 : ∀ u ∈ ys, u.oneCell' = true) (hm : 0 < m) (hy : fm y m ys) (hn : n + m ≤ 1000000) (ty : TypeId) :
    ∃ v' w1, (Builtin.append_ #[40, 40] ty #[v, .slice (some ⟨b, 0, none⟩) m m]).run Tryd.prog W = .ok v' w1 ∧ ∃ B' c', v' = .slice B' (n + m) c' ∧ ∃ e e', GL w (es.set k e ++ [e']) bs w1 ∧ F3 v n v' (n + m) y e e' := by
  obtain ⟨cs, o1, o2⟩ := h.ok hk
  have o1 : W.ownsRow w.heap.size 54 3 v n cs := o1
  have o2 : fm y n cs := o2
  have hE := h.t _ (List.mem_of_getElem? hk)
  have hcl : cs.length = n * 3 := o1.1
  obtain ⟨g, c, w1, hr, o3, hc⟩ := run_appG 40 ty 54 3 32 (.agg #[.int .i64 0, .int .i64 0, .string ⟨#[]⟩]) Tryd.underlying40 elM w.heap.size v n m cs ys b o1 hb hl h1 hm h.g.bel.size (by omega)
  have f2 := fm_app o2 hcl hy
  refine ⟨_, w1, hr, _, _, rfl, ?_⟩
  rcases hc with ⟨rfl, h2⟩ | ⟨h2, h3⟩
  · refine ⟨ndE (.slice (some ⟨g, 0, none⟩) (n + m) c) (n + m) y (n + m), nilE, ?_, fun b' W' p1 _ => v3_of p1⟩
    have h4 := h.set hk (e' := ndE (.slice (some ⟨g, 0, none⟩) (n + m) c) (n + m) y (n + m)) ⟨_, o3, f2⟩ h2 rfl hE
    exact h4.push (Below.refl _ w1) ⟨[], World.ownsRow_nil _ _ _ _, trivial⟩ (by decide)
  · refine ⟨ndE v n y n, ndE (.slice (some ⟨g, 0, none⟩) (n + m) c) (n + m) y (n + m), ?_, fun b' W' p1 p2 => ⟨v3_one p1, v3_one p2⟩⟩
    have e0 : es.set k (ndE v n y n) = es := by
      obtain ⟨hl, he⟩ := List.getElem?_eq_some_iff.1 hk
      rw [← he, List.set_getElem_self]
    rw [e0]
    refine h.push h3 ⟨_, ?_, f2⟩ hE
    exact own_up o3 h2
end Go.Proofs.YtahkpcbemnfllaaDoor.Gen
