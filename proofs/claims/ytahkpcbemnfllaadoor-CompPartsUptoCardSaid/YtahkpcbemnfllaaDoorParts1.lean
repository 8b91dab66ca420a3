/- Nodes that tile a range, no two neighbours a pair, are the range's cover; what is pushed and merged: in plain terms. -/
import Derived.Test.YtahkpcbemnfllaaDoorMerge1
import Derived.Test.YtahkpcbemnfllaaDoorOnes
set_option linter.unusedVariables false
set_option linter.unusedSimpArgs false
namespace Go.Proofs.YtahkpcbemnfllaaDoor.Comp
open Go.RowKit Go.Proofs.YtahkpcbemnfllaaDoor.Base Go.Proofs.YtahkpcbemnfllaaDoor.Mem Go.Proofs.YtahkpcbemnfllaaDoor.Strs Go.Proofs.YtahkpcbemnfllaaDoor.ShaDig Go.Proofs.YtahkpcbemnfllaaDoor.TreeHash Go.Proofs.YtahkpcbemnfllaaDoor.Cov

/-- No two neighbours are a pair. -/
def NoPair : List (Nat × Nat) → Prop
  | a :: b :: l => pairB a b = false ∧ NoPair (b :: l)
  | _ => True
theorem noPair_nil : NoPair [] := trivial
theorem noPair_one (a : Nat × Nat) : NoPair [a] := trivial
theorem noPair_two {a b : Nat × Nat} {l : List (Nat × Nat)} : NoPair (a :: b :: l) ↔ pairB a b = false ∧ NoPair (b :: l) := Iff.rfl
theorem noPair_tail {a : Nat × Nat} {l : List (Nat × Nat)} (h : NoPair (a :: l)) : NoPair l := by
  cases l with
  | nil => trivial
  | cons b l => exact h.2
theorem noPair_init {l : List (Nat × Nat)} {a : Nat × Nat} (h : NoPair (l ++ [a])) : NoPair l := by
  induction l with
  | nil => trivial
  | cons b l ih =>
    cases l with
    | nil => trivial
    | cons c l => exact ⟨h.1, ih h.2⟩
theorem noPair_snoc {l : List (Nat × Nat)} {a x : Nat × Nat} (h : NoPair (l ++ [a])) (hp : pairB a x = false) : NoPair (l ++ [a] ++ [x]) := by
  induction l with
  | nil => exact ⟨hp, trivial⟩
  | cons b l ih =>
    cases l with
    | nil => exact ⟨h.1, ih h.2⟩
    | cons c l => exact ⟨h.1, ih h.2⟩
theorem tile_nil {p hi : Nat} (h : Tiles p hi []) : p = hi := by cases h; rfl
theorem tile_cons {p hi k j : Nat} {l : List (Nat × Nat)} (h : Tiles p hi ((k, j) :: l)) : p = j * 2 ^ k ∧ k ≤ 62 ∧ Tiles (p + 2 ^ k) hi l := by
  cases h with
  | step e hk ht => exact ⟨e, hk, ht⟩
theorem tiles_snoc {p mid k j : Nat} {l : List (Nat × Nat)} (h : Tiles p mid l) (e : mid = j * 2 ^ k) (hk : k ≤ 62) : Tiles p (mid + 2 ^ k) (l ++ [(k, j)]) := by
  induction h with
  | done p => exact Tiles.step e hk (Tiles.done _)
  | step e' hk' _ ih => exact Tiles.step e' hk' (ih e)
theorem tiles_init {hi k j : Nat} : ∀ (l : List (Nat × Nat)) (p : Nat), Tiles p hi (l ++ [(k, j)]) → k ≤ 62 ∧ Tiles p (j * 2 ^ k) l ∧ hi = j * 2 ^ k + 2 ^ k
  | [], p, h => by
    obtain ⟨e, hk, ht⟩ := tile_cons h
    have := tile_nil ht
    subst e
    exact ⟨hk, Tiles.done _, this.symm⟩
  | (k', j') :: l, p, h => by
    obtain ⟨e, hk, ht⟩ := tile_cons h
    obtain ⟨h1, h2, h3⟩ := tiles_init l _ ht
    exact ⟨h1, Tiles.step e hk h2, h3⟩
theorem no_small (hi : Nat) : ∀ (l : List (Nat × Nat)) (p k j : Nat), Tiles p hi ((k, j) :: l) → NoPair ((k, j) :: l) → 2 ^ (k + 1) ∣ p → p + 2 ^ (k + 1) ≤ hi → k < 62 → False
  | [], p, k, j, ht, _, _, hle, _ => by
    obtain ⟨_, _, h1⟩ := tile_cons ht
    have h2 := tile_nil h1
    have := Nat.two_pow_pos k
    rw [Nat.pow_succ] at hle
    omega
  | (k', j') :: l, p, k, j, ht, hn, hd, hle, hk => by
    obtain ⟨e, _, h1⟩ := tile_cons ht
    obtain ⟨e', _, _⟩ := tile_cons h1
    have hs : 2 ^ (k + 1) = 2 ^ k * 2 := Nat.pow_succ ..
    have hpos := Nat.two_pow_pos k
    rcases Nat.lt_trichotomy k' k with hlt | heq | hgt
    · have hq := Nat.pow_le_pow_right (show 0 < 2 by decide) (show k' + 1 ≤ k from hlt)
      exact no_small hi l (p + 2 ^ k) k' j' h1 (noPair_tail hn) (Nat.dvd_add (Nat.dvd_trans (Nat.pow_dvd_pow 2 (by omega)) hd) (Nat.pow_dvd_pow 2 hlt)) (by omega) (by omega)
    · subst heq
      have h2 : j' = j + 1 := by
        refine Nat.eq_of_mul_eq_mul_right hpos ?_
        rw [← e', e, Nat.add_mul, Nat.one_mul]
      have h3 : j % 2 = 0 := by
        rw [e, hs, Nat.mul_comm j] at hd
        have := Nat.dvd_of_mul_dvd_mul_left hpos hd
        omega
      have h4 : pairB (k', j) (k', j') = true := decide_eq_true ⟨rfl, h3, h2, hk⟩
      rw [noPair_two] at hn
      rw [hn.1] at h4
      cases h4
    · have h2 : 2 ^ (k + 1) ∣ j' * 2 ^ k' := Nat.dvd_trans (Nat.pow_dvd_pow 2 hgt) (Nat.dvd_mul_left _ _)
      rw [← e'] at h2
      have h3 := Nat.le_of_dvd hpos ((Nat.dvd_add_right hd).1 h2)
      omega
theorem greedy_unique (hi : Nat) (hh : hi ≤ 4611686018427387904) : ∀ (l : List (Nat × Nat)) (p : Nat), Tiles p hi l → NoPair l → l = greedy p hi
  | [], p, ht, _ => by
    have := tile_nil ht
    rw [greedy_end (by omega)]
  | (k, j) :: l, p, ht, hn => by
    obtain ⟨e, hk, h1⟩ := tile_cons ht
    have hpos := Nat.two_pow_pos k
    have hle := h1.le
    have hp : p < hi := by omega
    have hg : Cov.Good p hi k := ⟨hk, ⟨j, by rw [e, Nat.mul_comm]⟩, by omega⟩
    have hl := (good_iff hp hh).1 hg
    have heq : lev p hi = k := by
      rcases Nat.lt_or_ge k (lev p hi) with h | h
      · exfalso
        obtain ⟨g1, g2, g3⟩ := lev_good hp hh
        have h2 := Nat.pow_le_pow_right (show 0 < 2 by decide) (show k + 1 ≤ lev p hi from h)
        exact no_small hi l p k j ht hn (Nat.dvd_trans (Nat.pow_dvd_pow 2 h) g2) (by omega) (by omega)
      · omega
    rw [greedy_step hp, heq, ← greedy_unique hi hh l (p + 2 ^ k) h1 (noPair_tail hn), e, Nat.mul_div_cancel _ hpos]
/-! ### The nodes of a range, with their hashes -/
/-- The hash of a node over leaves whose hashes are told. -/
def hv (k : Int) (f : Nat → ByteArray) : Nat → Nat → ByteArray
  | 0, j => f j
  | m + 1, j => nodeH k (hv k f m (2 * j)) (hv k f m (2 * j + 1))
theorem hv_size {k : Int} {f : Nat → ByteArray} (hf : ∀ p, (f p).size = wid k) : ∀ m j, (hv k f m j).size = wid k
  | 0, j => hf j
  | m + 1, j => nodeH_size _ _ _
def nd (k : Int) (f : Nat → ByteArray) (y : Nat × Nat) : Md := (y, hv k f y.1 y.2)
def nodes (k : Int) (f : Nat → ByteArray) (lo hi : Nat) : List Md := (greedy lo hi).map (nd k f)
theorem nodes_length (k : Int) (f : Nat → ByteArray) (lo hi : Nat) : (nodes k f lo hi).length = (greedy lo hi).length := List.length_map _
theorem nodes_fst (k : Int) (f : Nat → ByteArray) (lo hi : Nat) : (nodes k f lo hi).map (·.1) = greedy lo hi := by
  unfold nodes
  rw [List.map_map]
  have : ((fun x : Md => x.1) ∘ nd k f) = id := by funext y; rfl
  rw [this, List.map_id]
/-- They tile the range; no two neighbours are a pair; their hashes are told. -/
structure Stk (k : Int) (f : Nat → ByteArray) (lo hi : Nat) (st : List Md) : Prop where
  tiles : Tiles lo hi (st.map (·.1))
  np : NoPair (st.map (·.1))
  hash : ∀ y ∈ st, y.2 = hv k f y.1.1 y.1.2
theorem Stk.eq {k : Int} {f : Nat → ByteArray} {lo hi : Nat} {st : List Md} (h : Stk k f lo hi st) (hh : hi ≤ 4611686018427387904) : st = nodes k f lo hi := by
  unfold nodes
  rw [← greedy_unique hi hh _ _ h.tiles h.np, List.map_map]
  have : ∀ l : List Md, (∀ y ∈ l, y.2 = hv k f y.1.1 y.1.2) → l = l.map (nd k f ∘ fun x => x.1) := by
    intro l
    induction l with
    | nil => intro _; rfl
    | cons y l ih =>
      intro hl
      rw [List.map_cons, ← ih (fun z hz => hl z (by simp [hz]))]
      congr 1
      show y = (y.1, hv k f y.1.1 y.1.2)
      rw [← hl y (by simp)]
  exact this st h.hash
theorem mrg_stk {k : Int} {f : Nat → ByteArray} {lo : Nat} : ∀ (r : List Md) (x : Md) (mid : Nat), Stk k f lo mid r.reverse → x.1.1 ≤ 62 → mid = x.1.2 * 2 ^ x.1.1 → x.2 = hv k f x.1.1 x.1.2 → Stk k f lo (mid + 2 ^ x.1.1) (mrg k r x).1.reverse
  | [], x, mid, h, hk, e, hx => by
    have h0 : lo = mid := tile_nil h.tiles
    refine ⟨?_, trivial, fun y hy => ?_⟩
    · show Tiles lo (mid + 2 ^ x.1.1) [x.1]
      exact Tiles.step (by rw [h0]; exact e) hk (by rw [h0]; exact Tiles.done _)
    · simp only [mrg, List.reverse_cons, List.reverse_nil, List.nil_append, List.mem_singleton] at hy
      subst hy
      exact hx
  | a :: r, x, mid, h, hk, e, hx => by
    have ht := h.tiles
    have hn := h.np
    rw [List.reverse_cons, List.map_append] at ht hn
    obtain ⟨t1, t2, t3⟩ := tiles_init _ _ ht
    by_cases hp : pairB a.1 x.1 = true
    · rw [mrg_yes hp]
      obtain ⟨h1, h2, h3, h4⟩ := of_decide_eq_true hp
      have ea : a.1.2 * 2 ^ a.1.1 = a.1.2 / 2 * 2 ^ (a.1.1 + 1) := by
        rw [Nat.pow_succ, Nat.mul_comm (2 ^ a.1.1) 2, ← Nat.mul_assoc]
        congr 1
        omega
      have hh := mrg_stk r (upM k a x) (a.1.2 * 2 ^ a.1.1) ⟨t2, noPair_init hn, fun y hy => h.hash y (by rw [List.reverse_cons]; simp at hy ⊢; exact .inl hy)⟩ (by show a.1.1 + 1 ≤ 62; omega) ea (by
        show nodeH k a.2 x.2 = nodeH k (hv k f a.1.1 (2 * (a.1.2 / 2))) (hv k f a.1.1 (2 * (a.1.2 / 2) + 1))
        have e1 : 2 * (a.1.2 / 2) = a.1.2 := by omega
        rw [e1, hx, h.hash a (by simp), ← h1, h3])
      have e2 : a.1.2 * 2 ^ a.1.1 + 2 ^ (upM k a x).1.1 = mid + 2 ^ x.1.1 := by
        show a.1.2 * 2 ^ a.1.1 + 2 ^ (a.1.1 + 1) = _
        rw [t3, ← h1, Nat.pow_succ, Nat.mul_two, Nat.add_assoc]
      rw [e2] at hh
      exact hh
    · have hp' : pairB a.1 x.1 = false := by simpa using hp
      rw [mrg_no hp']
      show Stk k f lo (mid + 2 ^ x.1.1) (x :: a :: r).reverse
      rw [List.reverse_cons]
      refine ⟨?_, ?_, fun y hy => ?_⟩
      · rw [List.map_append]
        exact tiles_snoc h.tiles e hk
      · rw [List.map_append, List.reverse_cons, List.map_append]
        exact noPair_snoc hn hp'
      · rw [List.mem_append] at hy
        rcases hy with hy | hy
        · exact h.hash y hy
        · simp only [List.mem_singleton] at hy
          subst hy
          exact hx
theorem beh_stk {k : Int} {f : Nat → ByteArray} {lo mid : Nat} {st : List Md} {x : Md} (h : Stk k f lo mid st) (hk : x.1.1 ≤ 62) (e : mid = x.1.2 * 2 ^ x.1.1) (hx : x.2 = hv k f x.1.1 x.1.2) : Stk k f lo (mid + 2 ^ x.1.1) (beh k st x).1 :=
  mrg_stk st.reverse x mid (by rw [List.reverse_reverse]; exact h) hk e hx
theorem behG_stk {k : Int} {f : Nat → ByteArray} {lo hi : Nat} : ∀ (l : List Md) (mid : Nat) (s : List Md × List Md), Stk k f lo mid s.1 → Tiles mid hi (l.map (·.1)) → (∀ y ∈ l, y.2 = hv k f y.1.1 y.1.2) → Stk k f lo hi (behG k s l).1
  | [], mid, s, h, ht, _ => by
    have := tile_nil ht
    subst this
    exact h
  | x :: l, mid, s, h, ht, hl => by
    obtain ⟨e, hk, h1⟩ := tile_cons (k := x.1.1) (j := x.1.2) ht
    exact behG_stk l (mid + 2 ^ x.1.1) ((beh k s.1 x).1, s.2 ++ (beh k s.1 x).2) (beh_stk h hk e (hl x (by simp))) h1 (fun y hy => hl y (by simp [hy]))
theorem nodes_stk (k : Int) (f : Nat → ByteArray) (lo : Nat) : ∀ n, lo + n ≤ 4611686018427387904 → Stk k f lo (lo + n) (nodes k f lo (lo + n))
  | 0, _ => by
    unfold nodes
    rw [Nat.add_zero, greedy_end (by omega)]
    exact ⟨Tiles.done _, trivial, fun y hy => by simp at hy⟩
  | n + 1, h => by
    have h1 := nodes_stk k f lo n (by omega)
    have h2 := beh_stk (x := ((0, lo + n), f (lo + n))) h1 (Nat.zero_le _) (by show lo + n = (lo + n) * 2 ^ 0; omega) rfl
    have h3 : Stk k f lo (lo + (n + 1)) (beh k (nodes k f lo (lo + n)) ((0, lo + n), f (lo + n))).1 := h2
    rw [← h3.eq h]
    exact h3
theorem push_nodes (k : Int) (f : Nat → ByteArray) (lo hi : Nat) (hl : lo ≤ hi) (hh : hi < 4611686018427387904) : (beh k (nodes k f lo hi) ((0, hi), f hi)).1 = nodes k f lo (hi + 1) := by
  obtain ⟨n, rfl⟩ := Nat.le.dest hl
  have h1 := nodes_stk k f lo n (by omega)
  have h2 : Stk k f lo (lo + n + 1) (beh k (nodes k f lo (lo + n)) ((0, lo + n), f (lo + n))).1 := beh_stk (x := ((0, lo + n), f (lo + n))) h1 (Nat.zero_le _) (by show lo + n = (lo + n) * 2 ^ 0; omega) rfl
  exact h2.eq (by omega)
theorem merge_nodes (k : Int) (f : Nat → ByteArray) (lo mid hi : Nat) (hl : lo ≤ mid) (hm : mid ≤ hi) (hh : hi ≤ 4611686018427387904) : (behs k (nodes k f lo mid) (nodes k f mid hi)).1 = nodes k f lo hi := by
  obtain ⟨n, rfl⟩ := Nat.le.dest hl
  obtain ⟨m, rfl⟩ := Nat.le.dest hm
  have h1 := nodes_stk k f lo n (by omega)
  have h2 := nodes_stk k f (lo + n) m hh
  exact (behG_stk _ _ (_, []) h1 h2.tiles h2.hash).eq hh
/-! ### What the calls answer -/
theorem zip_nodes (k : Int) (f : Nat → ByteArray) (lo hi : Nat) : (greedy lo hi).zip ((nodes k f lo hi).map (·.2)) = nodes k f lo hi := by
  have : ∀ l : List (Nat × Nat), l.zip ((l.map (nd k f)).map (·.2)) = l.map (nd k f) := by
    intro l
    induction l with
    | nil => rfl
    | cons y l ih => simp only [List.map_cons, List.zip_cons_cons, ih]; rfl
  exact this _
/-- The hashes of a range's nodes. -/
def hs (k : Int) (f : Nat → ByteArray) (lo hi : Nat) : List ByteArray := (nodes k f lo hi).map (·.2)
theorem hs_length (k : Int) (f : Nat → ByteArray) (lo hi : Nat) : (hs k f lo hi).length = (greedy lo hi).length := by unfold hs; rw [List.length_map, nodes_length]
theorem hs_empty (k : Int) (f : Nat → ByteArray) (lo : Nat) : hs k f lo lo = [] := by unfold hs nodes; rw [greedy_end (by omega)]; rfl
theorem hs_size {k : Int} {f : Nat → ByteArray} (hf : ∀ p, (f p).size = wid k) (lo hi : Nat) : ∀ s ∈ hs k f lo hi, s.size = wid k := by
  intro s hs'
  simp only [hs, nodes, List.map_map, List.mem_map] at hs'
  obtain ⟨y, _, rfl⟩ := hs'
  exact hv_size hf _ _
theorem cov_nat {lo hi : Nat} (hl : lo ≤ hi) (hh : hi ≤ 4611686018427387904) : covE (lo : Int) (hi : Int) = 0 ∧ covL (lo : Int) (hi : Int) = greedy lo hi := by
  have he : covE (lo : Int) (hi : Int) = 0 := by unfold covE; rw [if_neg (by omega)]
  obtain ⟨a, b, ea, eb, _, _, h, _⟩ := cov_yes (lo := (lo : Int)) (hi := (hi : Int)) (by omega)
  have ea : lo = a := by omega
  have eb : hi = b := by omega
  subst ea eb
  exact ⟨he, h⟩
theorem chk_nodes {k : Int} {f : Nat → ByteArray} (hf : ∀ p, (f p).size = wid k) {lo hi : Nat} (hl : lo ≤ hi) (hh : hi ≤ 4611686018427387904) : chk k (lo : Int) (hi : Int) (hs k f lo hi) = 0 := by
  obtain ⟨h1, h2⟩ := cov_nat hl hh
  unfold chk
  rw [h1, if_neg (by simp), h2, if_neg (by rw [hs_length]; simp), if_pos (hs_size hf lo hi)]
theorem push_ans {k : Int} {f : Nat → ByteArray} (hf : ∀ p, (f p).size = wid k) {lo hi : Nat} (hl : lo ≤ hi) (hh : hi < 4611686018427387904) :
    ∃ md : List Md, md.length + (greedy lo (hi + 1)).length = (greedy lo hi).length + 1 ∧ ∀ w, PushA k (lo : Int) (hi : Int) (hs k f lo hi) (f hi) w = Ans (lo : Int) ((hi + 1 : Nat) : Int) 0 (hs k f lo (hi + 1)) md w := by
  refine ⟨(beh k (nodes k f lo hi) ((0, hi), f hi)).2, ?_, fun w => ?_⟩
  · have h1 := beh_len k (nodes k f lo hi) ((0, hi), f hi)
    rw [push_nodes k f lo hi hl hh, nodes_length, nodes_length] at h1
    omega
  · have hE : pushE k (lo : Int) (hi : Int) (hs k f lo hi) (f hi) = 0 := by
      unfold pushE
      rw [chk_nodes hf hl (by omega), if_neg (by simp), if_neg (by simp [hf]), if_neg (by omega)]
    have hN : pushN k (lo : Int) (hi : Int) (hs k f lo hi) (f hi) = beh k (nodes k f lo hi) ((0, hi), f hi) := by
      unfold pushN
      rw [hE, if_neg (by simp), (cov_nat hl (by omega)).2]
      unfold hs
      rw [zip_nodes, Int.toNat_natCast]
    unfold PushA pushLo pushHi
    rw [hE, hN, if_neg (by simp), if_neg (by simp), push_nodes k f lo hi hl hh]
    rfl
theorem merge_ans {k : Int} {f : Nat → ByteArray} (hf : ∀ p, (f p).size = wid k) {lo mid hi : Nat} (hl : lo ≤ mid) (hm : mid ≤ hi) (hh : hi ≤ 4611686018427387904) :
    ∃ md : List Md, md.length + (greedy lo hi).length = (greedy lo mid).length + (greedy mid hi).length ∧ ∀ w, MergeA k (lo : Int) (mid : Int) (hs k f lo mid) (mid : Int) (hi : Int) (hs k f mid hi) w = Ans (lo : Int) (hi : Int) 0 (hs k f lo hi) md w := by
  refine ⟨(behs k (nodes k f lo mid) (nodes k f mid hi)).2, ?_, fun w => ?_⟩
  · have h1 := behG_len k (nodes k f mid hi) (nodes k f lo mid, [])
    have h2 := merge_nodes k f lo mid hi hl hm hh
    unfold behs at h2 ⊢
    rw [h2, nodes_length, nodes_length, nodes_length] at h1
    simp only [List.length_nil] at h1
    omega
  · have hE : mergeE k (lo : Int) (mid : Int) (hs k f lo mid) (mid : Int) (hi : Int) (hs k f mid hi) = 0 := by
      unfold mergeE
      rw [chk_nodes hf hl (by omega), chk_nodes hf hm hh, if_neg (by simp), if_neg (by simp), if_neg (by simp)]
    have hN : mergeN k (lo : Int) (mid : Int) (hs k f lo mid) (mid : Int) (hi : Int) (hs k f mid hi) = behs k (nodes k f lo mid) (nodes k f mid hi) := by
      unfold mergeN
      rw [hE, if_neg (by simp), (cov_nat hl (by omega)).2, (cov_nat hm hh).2]
      unfold hs
      rw [zip_nodes, zip_nodes]
    unfold MergeA mergeLo mergeHi
    rw [hE, hN, if_neg (by simp), if_neg (by simp), merge_nodes k f lo mid hi hl hm hh]
    rfl
theorem dg_popc (m : Nat) : ∀ r, r < 2 ^ m → (dg m r).length = Ones.popc r := by
  induction m with
  | zero => intro r h; obtain rfl : r = 0 := by simpa using h
            rw [Ones.popc_zero]; rfl
  | succ m ih =>
    have hp : ∀ (m r : Nat), r < 2 ^ m → Ones.popc (2 ^ m + r) = 1 + Ones.popc r := by
      intro m
      induction m with
      | zero => intro r h; obtain rfl : r = 0 := by simpa using h
                rw [Ones.popc_zero, Ones.popc_step, show (2 ^ 0 + 0) / 2 = 0 from rfl, Ones.popc_zero]
      | succ m ih =>
        intro r h
        have hs : 2 ^ (m + 1) = 2 ^ m * 2 := Nat.pow_succ ..
        rw [Ones.popc_step (2 ^ (m + 1) + r), Ones.popc_step r, show (2 ^ (m + 1) + r) % 2 = r % 2 by omega, show (2 ^ (m + 1) + r) / 2 = 2 ^ m + r / 2 by omega, ih (r / 2) (by omega)]
        omega
    intro r h
    have hs : 2 ^ (m + 1) = 2 ^ m * 2 := Nat.pow_succ ..
    unfold dg
    by_cases hr : 2 ^ m ≤ r
    · rw [if_pos hr, List.length_cons, ih _ (by omega)]
      have := hp m (r - 2 ^ m) (by omega)
      rw [show 2 ^ m + (r - 2 ^ m) = r by omega] at this
      omega
    · rw [if_neg hr, ih _ (by omega)]
theorem greedy_ones (n : Nat) (h : n ≤ 4611686018427387904) : (greedy 0 n).length = Ones.popc n := by
  rw [← List.length_map (f := fun x : Nat × Nat => x.1), greedy_zero n h]
  exact dg_popc 63 n (by have : (2 : Nat) ^ 63 = 9223372036854775808 := by decide
                         omega)
end Go.Proofs.YtahkpcbemnfllaaDoor.Comp
