/- A node put behind others: which are joined: in plain terms; tree.Sibling's walk. -/
import Derived.Test.YtahkpcbemnfllaaDoorMade
import Derived.Test.YtahkpcbemnfllaaDoorAddrsM
set_option linter.unusedVariables false
set_option linter.unusedSimpArgs false
namespace Go.Proofs.YtahkpcbemnfllaaDoor.Comp
open Go.RowKit Go.Proofs.YtahkpcbemnfllaaDoor.Base Go.Proofs.YtahkpcbemnfllaaDoor.Mem Go.Proofs.YtahkpcbemnfllaaDoor.Strs Go.Proofs.YtahkpcbemnfllaaDoor.ShaDig Go.Proofs.YtahkpcbemnfllaaDoor.TreeHash Go.Proofs.YtahkpcbemnfllaaDoor.Cov Go.Proofs.YtahkpcbemnfllaaDoor.Addrs

def pairB (a x : Nat × Nat) : Bool := decide (a.1 = x.1 ∧ a.2 % 2 = 0 ∧ x.2 = a.2 + 1 ∧ a.1 < 62)
abbrev upM (k : Int) (a x : Md) : Md := ((a.1.1 + 1, a.1.2 / 2), nodeH k a.2 x.2)
/-- The nodes behind a push (the last first), and those that became whole. -/
def mrg (k : Int) : List Md → Md → List Md × List Md
  | [], x => ([x], [])
  | a :: r, x => if pairB a.1 x.1 then ((mrg k r (upM k a x)).1, upM k a x :: (mrg k r (upM k a x)).2) else (x :: a :: r, [])
theorem mrg_yes {k : Int} {a x : Md} {r : List Md} (h : pairB a.1 x.1 = true) : mrg k (a :: r) x = ((mrg k r (upM k a x)).1, upM k a x :: (mrg k r (upM k a x)).2) := by simp only [mrg]; rw [if_pos h]
theorem mrg_no {k : Int} {a x : Md} {r : List Md} (h : pairB a.1 x.1 = false) : mrg k (a :: r) x = (x :: a :: r, []) := by simp only [mrg]; rw [if_neg (by rw [h]; simp)]
/-- There may be such a node, and its hash is short. -/
def okM (x : Md) : Prop := x.1.1 ≤ 62 ∧ (x.1.2 + 1) * 2 ^ x.1.1 ≤ 4611686018427387904 ∧ x.2.size ≤ 32
theorem okM_lt {x : Md} (h : okM x) : x.1.2 < 4611686018427387904 := by
  have := Nat.mul_le_mul_left (x.1.2 + 1) (Nat.two_pow_pos x.1.1)
  have := h.2.1
  omega
theorem okM_up {k : Int} {a x : Md} (hx : okM x) (h : pairB a.1 x.1 = true) : okM (upM k a x) := by
  have hd := of_decide_eq_true h
  obtain ⟨h1, h2, h3, h4⟩ := hd
  obtain ⟨g1, g2, g3⟩ := hx
  have := wid_le k
  refine ⟨by show a.1.1 + 1 ≤ 62; omega, ?_, by show (nodeH k a.2 x.2).size ≤ 32; rw [nodeH_size]; omega⟩
  show (a.1.2 / 2 + 1) * 2 ^ (a.1.1 + 1) ≤ _
  rw [← h1, h3] at g2
  have e : (a.1.2 / 2 + 1) * 2 ^ (a.1.1 + 1) = (a.1.2 + 1 + 1) * 2 ^ a.1.1 := by
    rw [Nat.pow_succ, Nat.mul_comm (2 ^ a.1.1) 2, ← Nat.mul_assoc]
    congr 1
    omega
  rw [e]
  exact g2
theorem mrg_ok (k : Int) (r : List Md) : ∀ x, (∀ a ∈ r, okM a) → okM x → (∀ y ∈ (mrg k r x).1, okM y) ∧ (∀ y ∈ (mrg k r x).2, okM y) := by
  induction r with
  | nil =>
    intro x _ hx
    exact ⟨fun y hy => by simp only [mrg, List.mem_singleton] at hy; subst hy; exact hx, fun y hy => by simp [mrg] at hy⟩
  | cons a r ih =>
    intro x hr hx
    by_cases h : pairB a.1 x.1 = true
    · rw [mrg_yes h]
      obtain ⟨h1, h2⟩ := ih (upM k a x) (fun b hb => hr b (by simp [hb])) (okM_up hx h)
      refine ⟨h1, fun y hy => ?_⟩
      rcases List.mem_cons.1 hy with rfl | hy
      · exact okM_up hx h
      · exact h2 y hy
    · rw [mrg_no (by simpa using h)]
      refine ⟨fun y hy => ?_, fun y hy => by simp at hy⟩
      rcases List.mem_cons.1 hy with rfl | hy
      · exact hx
      · exact hr y hy
theorem mrg_len (k : Int) (r : List Md) : ∀ x, (mrg k r x).1.length + (mrg k r x).2.length = r.length + 1 := by
  induction r with
  | nil => intro x; simp [mrg]
  | cons a r ih =>
    intro x
    by_cases h : pairB a.1 x.1 = true
    · rw [mrg_yes h]
      have := ih (upM k a x)
      simp only [List.length_cons]
      omega
    · rw [mrg_no (by simpa using h)]
      simp
/-- What is behind a push: the nodes, and those that became whole. -/
def beh (k : Int) (st : List Md) (x : Md) : List Md × List Md := ((mrg k st.reverse x).1.reverse, (mrg k st.reverse x).2)
theorem beh_yes {k : Int} {st : List Md} {a x : Md} (h : pairB a.1 x.1 = true) : beh k (st ++ [a]) x = ((beh k st (upM k a x)).1, upM k a x :: (beh k st (upM k a x)).2) := by
  unfold beh
  rw [List.reverse_append, List.reverse_singleton, List.singleton_append, mrg_yes h]
theorem beh_no {k : Int} {st : List Md} {a x : Md} (h : pairB a.1 x.1 = false) : beh k (st ++ [a]) x = (st ++ [a] ++ [x], []) := by
  unfold beh
  rw [List.reverse_append, List.reverse_singleton, List.singleton_append, mrg_no h]
  simp
theorem beh_nil {k : Int} {x : Md} : beh k [] x = ([x], []) := rfl
theorem beh_ok {k : Int} {st : List Md} {x : Md} (h : ∀ a ∈ st, okM a) (hx : okM x) : (∀ y ∈ (beh k st x).1, okM y) ∧ (∀ y ∈ (beh k st x).2, okM y) := by
  obtain ⟨h1, h2⟩ := mrg_ok k st.reverse x (fun a ha => h a (List.mem_reverse.1 ha)) hx
  exact ⟨fun y hy => h1 y (List.mem_reverse.1 hy), h2⟩
theorem beh_len (k : Int) (st : List Md) (x : Md) : (beh k st x).1.length + (beh k st x).2.length = st.length + 1 := by
  have := mrg_len k st.reverse x
  rw [List.length_reverse] at this
  unfold beh
  rw [List.length_reverse]
  exact this
theorem xor_one (j : Nat) (h : j < 4611686018427387904) : Go.bits .xor .i64 (j : Int) 1 = ((j ^^^ 1 : Nat) : Int) := by
  have hx : j ^^^ 1 < 2 ^ 62 := Nat.xor_lt_two_pow (by omega) (by omega)
  have ho : ∀ a : Nat, a < 18446744073709551616 → (BitVec.ofInt 64 (a : Int)).toNat = a := fun a ha => by
    rw [BitVec.toNat_ofInt]; omega
  show IntKind.i64.wrap ((BitVec.ofInt 64 (j : Int) ^^^ BitVec.ofInt 64 ((1 : Nat) : Int)).toNat : Int) = _
  rw [BitVec.toNat_xor, ho j (by omega), ho 1 (by omega)]
  exact IntWalk.i64_in _ (by omega)
theorem xor_val (j : Nat) : j ^^^ 1 = if j % 2 = 0 then j + 1 else j - 1 := by
  have h1 : (j ^^^ 1) / 2 = j / 2 := by rw [Nat.xor_div_two]; simp
  have h2 : (j ^^^ 1) % 2 = (j % 2) ^^^ 1 := by
    have := Nat.xor_mod_two_pow (a := j) (b := 1) (n := 1)
    simpa using this
  have h3 : j % 2 = 0 ∨ j % 2 = 1 := by omega
  rcases h3 with h3 | h3
  · rw [if_pos h3]; rw [h3, show (0 : Nat) ^^^ 1 = 1 from rfl] at h2; omega
  · rw [if_neg (by omega)]; rw [h3, show (1 : Nat) ^^^ 1 = 0 from rfl] at h2; omega
/-- What Sibling answers. -/
def sibE (x : Nat × Nat) : Int := if x.1 < 62 then 0 else 50
def sibV (x : Nat × Nat) : Nat × Nat := if x.1 < 62 then (x.1, x.2 ^^^ 1) else (0, 0)
theorem pair_iff (a x : Nat × Nat) : pairB a x = true ↔ sibE a = 0 ∧ sibV a = x ∧ a.2 ≤ x.2 := by
  unfold pairB sibE sibV
  rw [decide_eq_true_iff]
  by_cases h : a.1 < 62
  · rw [if_pos h, if_pos h, xor_val]
    constructor
    · rintro ⟨h1, h2, h3, _⟩
      refine ⟨rfl, ?_, by omega⟩
      rw [if_pos h2]
      exact Prod.ext h1 h3.symm
    · rintro ⟨_, h2, h3⟩
      subst h2
      by_cases hm : a.2 % 2 = 0
      · rw [if_pos hm] at h3 ⊢
        exact ⟨rfl, hm, rfl, h⟩
      · rw [if_neg hm] at h3
        simp only at h3
        omega
  · rw [if_neg h, if_neg h]
    constructor
    · rintro ⟨_, _, _, h4⟩; omega
    · rintro ⟨h1, _⟩; omega
theorem valid_nat {p j : Nat} (h1 : p ≤ 62) (h2 : (j + 1) * 2 ^ p ≤ 4611686018427387904) : valid (p : Int) (j : Int) = true := (valid_iff _ _).2 ⟨p, j, rfl, rfl, h1, h2⟩
theorem sib_ok {p j : Nat} (hp : p < 62) (h2 : (j + 1) * 2 ^ p ≤ 4611686018427387904) : ((j ^^^ 1) + 1) * 2 ^ p ≤ 4611686018427387904 := by
  have e : 4611686018427387904 = 2 ^ (61 - p) * 2 * 2 ^ p := by
    have : (2 : Nat) ^ (61 - p) * 2 = 2 ^ (62 - p) := by rw [← Nat.pow_succ]; congr 1; omega
    rw [this, ← Nat.pow_add, show 62 - p + p = 62 by omega]
  have hk : j + 1 ≤ 2 ^ (61 - p) * 2 := by
    rw [e] at h2
    exact Nat.le_of_mul_le_mul_right h2 (Nat.two_pow_pos p)
  rw [e]
  refine Nat.mul_le_mul_right _ ?_
  rw [xor_val]
  split <;> omega
def AddrErr (x : Nat × Nat) (z : Int) (w : World) (e : Ending) (w' : World) : Prop := e = .returned (.tuple #[.agg #[.int .i64 (x.1 : Int), .int .i64 (x.2 : Int)], .int .i64 z]) ∧ Below w.heap.size w w'
set_option maxHeartbeats 1000000 in
theorem kin_calls (l i l2 i2 : Nat) (w : World) (h1 : valid (l : Int) (i : Int) = true) :
    Calls Tryd.prog 65 #[.agg #[.int .i64 (l : Int), .int .i64 (i : Int)], .agg #[.int .i64 (l2 : Int), .int .i64 (i2 : Int)]] w (AddrErr (if valid (l2 : Int) (i2 : Int) then (l2, i2) else (0, 0)) (if valid (l2 : Int) (i2 : Int) then 0 else 50) w) := by
  have r1 := (Row.new w #[.int .i64 (l : Int), .int .i64 (i : Int)] 52).alloc (.cells #[.int .i64 (l2 : Int), .int .i64 (i2 : Int)] 52)
  have r2 := Row.new (w.alloc (.cells #[.int .i64 (l : Int), .int .i64 (i : Int)] 52)) #[.int .i64 (l2 : Int), .int .i64 (i2 : Int)] 52
  rw [World.size_alloc] at r2
  have HV1 := Lib.hid (fun W => mValid_calls (l : Int) (i : Int) W)
  have HV2 := Lib.hid (fun W => mValid_calls (l2 : Int) (i2 : Int) W)
  rw [h1] at HV1
  have hb0 : Below w.heap.size w (((w.alloc (.cells #[.int .i64 (l : Int), .int .i64 (i : Int)] 52)).alloc (.cells #[.int .i64 (l2 : Int), .int .i64 (i2 : Int)] 52)).alloc (.cells #[.int .i64 0, .int .i64 0] 52)) := ((((Below.refl _ w).alloc (Nat.le_refl _) _).alloc (by simp) _).alloc (by simp; omega) _)
  have HB0 := Lib.hid hb0
  have r1' := r1.alloc (.cells #[.int .i64 0, .int .i64 0] 52)
  have r2' := r2.alloc (.cells #[.int .i64 0, .int .i64 0] 52)
  have r3' := Row.new ((w.alloc (.cells #[.int .i64 (l : Int), .int .i64 (i : Int)] 52)).alloc (.cells #[.int .i64 (l2 : Int), .int .i64 (i2 : Int)] 52)) #[.int .i64 0, .int .i64 0] 52
  rw [World.size_alloc, World.size_alloc] at r3'
  have HR2 := Lib.hid r2'
  have HR3 := Lib.hid r3'
  have c10 := r1'.cell 0
  have c11 := r1'.cell 1
  clear r1 r2 r1' r2' r3' hb0 h1
  cases h2 : valid (l2 : Int) (i2 : Int) with
  | true =>
    rw [h2] at HV2
    clear h2
    go_enter Tryd.func65, Tryd.ntmps65
    go_wp2_with fail
    refine (HV1.out _).mono ?_
    rintro e w1 ⟨rfl, b1⟩
    have q2 := HR2.out.below b1 HR2.out.lt
    have q3 := HR3.out.below b1 HR3.out.lt
    have HB1 := Lib.hid (chain HB0.out b1)
    have HQ2 := Lib.hid q2
    have HQ3 := Lib.hid q3
    have c20 := q2.cell 0
    have c21 := q2.cell 1
    clear q2 q3 b1 c10 c11
    go_wp2_with fail
    refine (HV2.out _).mono ?_
    rintro e w2 ⟨rfl, b2⟩
    have q2 := HQ2.out.below b2 HQ2.out.lt
    have q3 := HQ3.out.below b2 HQ3.out.lt
    have HB2 := Lib.hid (chain HB1.out b2)
    have c20 := q2.cell 0
    have c21 := q2.cell 1
    have c30 := q3.cell 0
    have c31 := q3.cell 1
    have f30 := q3.free 0
    have f31 := q3.free 1
    clear q2 q3 b2
    go_wp2
    refine bodyPost_ret (v := .tuple #[.agg #[.int .i64 (l2 : Int), .int .i64 (i2 : Int)], .int .i64 0]) (by simp [results, Tryd.f65, go_sem, c30, c31]) rfl ⟨rfl, (HB2.out.setCell (by show w.heap.size ≤ w.heap.size + 1 + 1; omega) _).setCell (by show w.heap.size ≤ w.heap.size + 1 + 1; omega) _⟩
  | false =>
    rw [h2] at HV2
    clear h2
    go_enter Tryd.func65, Tryd.ntmps65
    go_wp2_with fail
    refine (HV1.out _).mono ?_
    rintro e w1 ⟨rfl, b1⟩
    have q2 := HR2.out.below b1 HR2.out.lt
    have q3 := HR3.out.below b1 HR3.out.lt
    have HB1 := Lib.hid (chain HB0.out b1)
    have HQ2 := Lib.hid q2
    have HQ3 := Lib.hid q3
    have c20 := q2.cell 0
    have c21 := q2.cell 1
    clear q2 q3 b1 c10 c11
    go_wp2_with fail
    refine (HV2.out _).mono ?_
    rintro e w2 ⟨rfl, b2⟩
    have q3 := HQ3.out.below b2 HQ3.out.lt
    have HB2 := Lib.hid (chain HB1.out b2)
    have c30 := q3.cell 0
    have c31 := q3.cell 1
    have f30 := q3.free 0
    have f31 := q3.free 1
    clear q3 b2
    go_wp2
    refine bodyPost_ret (v := .tuple #[.agg #[.int .i64 (0 : Int), .int .i64 (0 : Int)], .int .i64 50]) (by simp [results, Tryd.f65, go_sem, c30, c31]) rfl ⟨rfl, (HB2.out.setCell (by show w.heap.size ≤ w.heap.size + 1 + 1; omega) _).setCell (by show w.heap.size ≤ w.heap.size + 1 + 1; omega) _⟩
set_option maxHeartbeats 1000000 in
theorem sib_calls (l i : Nat) (w : World) (h1 : l ≤ 62) (h2 : (i + 1) * 2 ^ l ≤ 4611686018427387904) :
    Calls Tryd.prog 56 #[.agg #[.int .i64 (l : Int), .int .i64 (i : Int)]] w (AddrErr (sibV (l, i)) (sibE (l, i)) w) := by
  have hi : i < 4611686018427387904 := by
    have := Nat.mul_le_mul_left (i + 1) (Nat.two_pow_pos l)
    omega
  have hx := xor_one i hi
  have hv := valid_nat h1 h2
  have hs : (if valid (l : Int) ((i ^^^ 1 : Nat) : Int) then (l, i ^^^ 1) else (0, 0)) = sibV (l, i) ∧ (if valid (l : Int) ((i ^^^ 1 : Nat) : Int) then (0 : Int) else 50) = sibE (l, i) := by
    unfold sibV sibE
    by_cases h : l < 62
    · have := valid_nat h1 (sib_ok h h2)
      rw [this, if_pos h, if_pos h]; exact ⟨rfl, rfl⟩
    · obtain rfl : l = 62 := by omega
      obtain rfl : i = 0 := by omega
      have : valid ((62 : Nat) : Int) ((0 ^^^ 1 : Nat) : Int) = false := by decide
      rw [this]; exact ⟨rfl, rfl⟩
  have r1 := (Row.new w #[.int .i64 (l : Int), .int .i64 (i : Int)] 52).alloc (.cells #[.int .i64 0, .int .i64 0] 52)
  have r2 := Row.new (w.alloc (.cells #[.int .i64 (l : Int), .int .i64 (i : Int)] 52)) #[.int .i64 0, .int .i64 0] 52
  rw [World.size_alloc] at r2
  have HK := Lib.hid (fun W => kin_calls l i l (i ^^^ 1) W hv)
  rw [hs.1, hs.2] at HK
  have hb0 : Below w.heap.size w ((w.alloc (.cells #[.int .i64 (l : Int), .int .i64 (i : Int)] 52)).alloc (.cells #[.int .i64 0, .int .i64 0] 52)) := (((Below.refl _ w).alloc (Nat.le_refl _) _).alloc (by simp) _)
  have HB0 := Lib.hid hb0
  have HR2 := Lib.hid r2
  have c10 := r1.cell 0
  have c11 := r1.cell 1
  clear r1 r2 hb0 h1 h2 hs hv hi
  generalize sibV (l, i) = V at *
  generalize sibE (l, i) = z at *
  generalize i ^^^ 1 = i2 at *
  go_enter Tryd.func56, Tryd.ntmps56
  go_wp2_with fail
  refine (HK.out _).mono ?_
  rintro e w1 ⟨rfl, b1⟩
  have q2 := HR2.out.below b1 HR2.out.lt
  have HB1 := Lib.hid (chain HB0.out b1)
  have c30 := q2.cell 0
  have c31 := q2.cell 1
  have f30 := q2.free 0
  have f31 := q2.free 1
  clear q2 b1 c10 c11
  go_wp2
  refine bodyPost_ret (v := .tuple #[.agg #[.int .i64 (V.1 : Int), .int .i64 (V.2 : Int)], .int .i64 z]) (by simp [results, Tryd.f56, go_sem, c30, c31]) rfl ⟨rfl, (HB1.out.setCell (by show w.heap.size ≤ w.heap.size + 1; omega) _).setCell (by show w.heap.size ≤ w.heap.size + 1; omega) _⟩
end Go.Proofs.YtahkpcbemnfllaaDoor.Comp
