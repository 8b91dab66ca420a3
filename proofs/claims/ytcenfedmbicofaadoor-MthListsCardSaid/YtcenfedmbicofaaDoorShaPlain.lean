/- SHA-256 in plain terms: words, rounds, blocks, texts; no program in sight. -/
import Derived.Test.YtcenfedmbicofaaDoorBase
set_option linter.unusedVariables false
set_option linter.unusedSimpArgs false
namespace Go.Proofs.YtcenfedmbicofaaDoor.ShaPlain

/-- A word turned right. -/
def rot (n x : Nat) : Nat := x / 2 ^ n ||| x * 2 ^ (32 - n) % 4294967296
def s0 (x : Nat) : Nat := rot 7 x ^^^ rot 18 x ^^^ x / 8
def s1 (x : Nat) : Nat := rot 17 x ^^^ rot 19 x ^^^ x / 1024
def add (a b : Nat) : Nat := (a + b) % 4294967296
theorem or_lt {a b k : Nat} (ha : a < 2 ^ k) (hb : b < 2 ^ k) : a ||| b < 2 ^ k := Nat.or_lt_two_pow ha hb
theorem xor_lt' {a b k : Nat} (ha : a < 2 ^ k) (hb : b < 2 ^ k) : a ^^^ b < 2 ^ k := Nat.xor_lt_two_pow ha hb
theorem rot_lt (n : Nat) {x : Nat} (h : x < 4294967296) : rot n x < 4294967296 :=
  or_lt (k := 32) (Nat.lt_of_le_of_lt (Nat.div_le_self _ _) h) (Nat.mod_lt _ (by decide))
theorem div_lt' {x : Nat} (n : Nat) (h : x < 4294967296) : x / n < 4294967296 := Nat.lt_of_le_of_lt (Nat.div_le_self _ _) h
theorem s0_lt {x : Nat} (h : x < 4294967296) : s0 x < 4294967296 := xor_lt' (k := 32) (xor_lt' (k := 32) (rot_lt _ h) (rot_lt _ h)) (div_lt' _ h)
theorem s1_lt {x : Nat} (h : x < 4294967296) : s1 x < 4294967296 := xor_lt' (k := 32) (xor_lt' (k := 32) (rot_lt _ h) (rot_lt _ h)) (div_lt' _ h)
theorem add_lt (a b : Nat) : add a b < 4294967296 := Nat.mod_lt _ (by decide)

/-- The number that bytes are, the highest first. -/
def num (bs : List Nat) : Nat := bs.foldl (fun v b => v * 256 % 4294967296 ||| b) 0
/-- The first n words of a block. -/
def base (blk : List Nat) (n : Nat) : List Nat := (List.range n).map fun t => num ((blk.drop (4 * t)).take 4)
/-- The word that follows. -/
def nw (l : List Nat) : Nat := add (add (add (s1 (l.getD (l.length - 2) 0)) (l.getD (l.length - 7) 0)) (s0 (l.getD (l.length - 15) 0))) (l.getD (l.length - 16) 0)
def more (l : List Nat) : Nat → List Nat
  | 0 => l
  | n + 1 => more l n ++ [nw (more l n)]
/-- The words of a block. -/
def words (blk : List Nat) : List Nat := more (base blk 16) 48
theorem base_length (blk : List Nat) (n : Nat) : (base blk n).length = n := by simp [base]
theorem base_succ (blk : List Nat) (n : Nat) : base blk (n + 1) = base blk n ++ [num ((blk.drop (4 * n)).take 4)] := by simp [base, List.range_succ]
theorem more_length (l : List Nat) (n : Nat) : (more l n).length = l.length + n := by
  induction n with
  | zero => rfl
  | succ n ih => simp [more, ih]; omega
theorem words_length (blk : List Nat) : (words blk).length = 64 := by rw [words, more_length, base_length]
def Small (l : List Nat) : Prop := ∀ x ∈ l, x < 4294967296
theorem Small.getD {l : List Nat} (h : Small l) (i : Nat) : l.getD i 0 < 4294967296 := by
  rw [List.getD_eq_getElem?_getD]
  by_cases hi : i < l.length
  · rw [List.getElem?_eq_getElem hi]; exact h _ (List.getElem_mem hi)
  · rw [List.getElem?_eq_none (by omega)]; exact (by decide : (0 : Nat) < 4294967296)
theorem Small.snoc {l : List Nat} (h : Small l) {x : Nat} (hx : x < 4294967296) : Small (l ++ [x]) := by
  intro y hy
  rcases List.mem_append.1 hy with h1 | h1
  · exact h y h1
  · rw [List.mem_singleton.1 h1]; exact hx
theorem num_lt (bs : List Nat) (h : ∀ b ∈ bs, b < 256) : num bs < 4294967296 := by
  unfold num
  suffices H : ∀ v, v < 4294967296 → bs.foldl (fun v b => v * 256 % 4294967296 ||| b) v < 4294967296 from H 0 (by decide)
  induction bs with
  | nil => exact fun v hv => hv
  | cons b bs ih =>
    intro v hv
    exact ih (fun x hx => h x (List.mem_cons_of_mem _ hx)) _ (or_lt (k := 32) (Nat.mod_lt _ (by decide)) (Nat.lt_of_lt_of_le (h b List.mem_cons_self) (by decide)))
theorem base_small (blk : List Nat) (h : ∀ b ∈ blk, b < 256) (n : Nat) : Small (base blk n) := by
  intro x hx
  simp only [base, List.mem_map] at hx
  obtain ⟨t, _, rfl⟩ := hx
  exact num_lt _ fun b hb => h b (List.mem_of_mem_drop (List.mem_of_mem_take hb))
theorem nw_lt (l : List Nat) : nw l < 4294967296 := add_lt _ _
theorem more_small {l : List Nat} (h : Small l) (n : Nat) : Small (more l n) := by
  induction n with
  | zero => exact h
  | succ n ih => exact ih.snoc (nw_lt _)
theorem words_small (blk : List Nat) (h : ∀ b ∈ blk, b < 256) : Small (words blk) := more_small (base_small blk h 16) 48

/-- Eight words. -/
structure St where
  (a b c d e f g h : Nat)
deriving DecidableEq
def St.Ok (s : St) : Prop := s.a < 4294967296 ∧ s.b < 4294967296 ∧ s.c < 4294967296 ∧ s.d < 4294967296 ∧ s.e < 4294967296 ∧ s.f < 4294967296 ∧ s.g < 4294967296 ∧ s.h < 4294967296
def ch (e f g : Nat) : Nat := (e &&& f) ^^^ ((4294967295 ^^^ e) &&& g)
def maj (a b c : Nat) : Nat := (a &&& b) ^^^ (a &&& c) ^^^ (b &&& c)
def S1 (e : Nat) : Nat := rot 6 e ^^^ rot 11 e ^^^ rot 25 e
def S0 (a : Nat) : Nat := rot 2 a ^^^ rot 13 a ^^^ rot 22 a
def one (s : St) (k w : Nat) : Nat := add (add (add (add s.h (S1 s.e)) (ch s.e s.f s.g)) k) w
def two (s : St) : Nat := add (S0 s.a) (maj s.a s.b s.c)
def rnd (s : St) (k w : Nat) : St := ⟨add (one s k w) (two s), s.a, s.b, s.c, add s.d (one s k w), s.e, s.f, s.g⟩
def rnds (K W : List Nat) (s : St) : Nat → St
  | 0 => s
  | n + 1 => rnd (rnds K W s n) (K.getD n 0) (W.getD n 0)
def St.plus (s t : St) : St := ⟨add s.a t.a, add s.b t.b, add s.c t.c, add s.d t.d, add s.e t.e, add s.f t.f, add s.g t.g, add s.h t.h⟩
/-- The state behind one block more. -/
def comp (K : List Nat) (s : St) (blk : List Nat) : St := s.plus (rnds K (words blk) s 64)
theorem rnd_ok {s : St} (h : s.Ok) (k w : Nat) : (rnd s k w).Ok := by
  obtain ⟨h1, h2, h3, h4, h5, h6, h7, h8⟩ := h
  exact ⟨add_lt _ _, h1, h2, h3, add_lt _ _, h5, h6, h7⟩
theorem rnds_ok {s : St} (h : s.Ok) (K W : List Nat) (n : Nat) : (rnds K W s n).Ok := by
  induction n with
  | zero => exact h
  | succ n ih => exact rnd_ok ih _ _
theorem plus_ok (s t : St) : (s.plus t).Ok := ⟨add_lt _ _, add_lt _ _, add_lt _ _, add_lt _ _, add_lt _ _, add_lt _ _, add_lt _ _, add_lt _ _⟩
theorem comp_ok (K : List Nat) (s : St) (blk : List Nat) : (comp K s blk).Ok := plus_ok _ _
def St.list (s : St) : List Nat := [s.a, s.b, s.c, s.d, s.e, s.f, s.g, s.h]

/-! ### the bytes of a text, as numbers -/
def nbN (s : ByteArray) : List Nat := s.data.toList.map UInt8.toNat
theorem nbN_length (s : ByteArray) : (nbN s).length = s.size := by unfold nbN; rw [List.length_map]; rfl
theorem nbN_byte {s : ByteArray} {c : Nat} (h : c ∈ nbN s) : c < 256 := by
  simp only [nbN, List.mem_map] at h
  obtain ⟨x, _, rfl⟩ := h
  exact x.toNat_lt
theorem nbN_at (s : ByteArray) (i : Nat) (h : i < s.size) : (nbN s).take (i + 1) = (nbN s).take i ++ [(s[i]'h).toNat] := by
  rw [List.take_succ_eq_append_getElem (by rw [nbN_length]; exact h)]
  simp [nbN]
  rfl
theorem nbN_extract (s : ByteArray) (i j : Nat) : nbN (s.extract i j) = (nbN s).extract i j := by
  simp [nbN, ByteArray.data_extract, List.map_drop, List.map_take]
theorem nbN_append (s t : ByteArray) : nbN (s ++ t) = nbN s ++ nbN t := by simp [nbN, ByteArray.data_append]
theorem nbN_inj {s t : ByteArray} (h : nbN s = nbN t) : s = t := by
  apply Base.ext_toList
  rw [Base.toList_data, Base.toList_data]
  exact List.map_inj_right (fun _ _ e => UInt8.toNat_inj.1 e) |>.1 h
theorem num_snoc (l : List Nat) (b : Nat) : num (l ++ [b]) = num l * 256 % 4294967296 ||| b := by simp [num]
theorem join (n a b : Nat) (h : b < 2 ^ n) : 2 ^ n * a ||| b = 2 ^ n * a + b := (Nat.two_pow_add_eq_or_of_lt h a).symm
theorem num4 (a b c d : Nat) (ha : a < 256) (hb : b < 256) (hc : c < 256) (hd : d < 256) :
    num [a, b, c, d] = ((a * 16777216 % 4294967296 ||| b * 65536 % 4294967296) ||| c * 256 % 4294967296) ||| d := by
  have h1 := join 8 a b (by omega)
  have h2 := join 8 (a * 256 + b) c (by omega)
  have h3 := join 8 ((a * 256 + b) * 256 + c) d (by omega)
  have h4 := join 24 a (b * 65536) (by omega)
  have h5 := join 16 (a * 256 + b) (c * 256) (by omega)
  simp only [num, List.foldl_cons, List.foldl_nil, Nat.zero_mul, Nat.zero_mod, Nat.zero_or]
  rw [Nat.mod_eq_of_lt (a := a * 256) (by omega), show a * 256 = 2 ^ 8 * a by omega, h1,
    Nat.mod_eq_of_lt (a := (2 ^ 8 * a + b) * 256) (by omega), show (2 ^ 8 * a + b) * 256 = 2 ^ 8 * (a * 256 + b) by omega, h2,
    Nat.mod_eq_of_lt (a := (2 ^ 8 * (a * 256 + b) + c) * 256) (by omega), show (2 ^ 8 * (a * 256 + b) + c) * 256 = 2 ^ 8 * ((a * 256 + b) * 256 + c) by omega, h3,
    Nat.mod_eq_of_lt (a := a * 16777216) (by omega), show a * 16777216 = 2 ^ 24 * a by omega, Nat.mod_eq_of_lt (a := b * 65536) (by omega), h4,
    Nat.mod_eq_of_lt (a := c * 256) (by omega), show 2 ^ 24 * a + b * 65536 = 2 ^ 16 * (a * 256 + b) by omega, h5,
    show 2 ^ 16 * (a * 256 + b) + c * 256 = 2 ^ 8 * ((a * 256 + b) * 256 + c) by omega, h3]
end Go.Proofs.YtcenfedmbicofaaDoor.ShaPlain
