/- tree.hashed, Empty, Leaf, Node, and the document's: their walks. -/
import Derived.Test.YtcenfedmbicofaaDoorShaDig
import Derived.Test.YtcenfedmbicofaaDoorJoin
set_option linter.unusedVariables false
set_option linter.unusedSimpArgs false
namespace Go.Proofs.YtcenfedmbicofaaDoor.TreeHash
open Go.RowKit Go.Proofs.YtcenfedmbicofaaDoor.Base Go.Proofs.YtcenfedmbicofaaDoor.ShaPlain Go.Proofs.YtcenfedmbicofaaDoor.Mem Go.Proofs.YtcenfedmbicofaaDoor.ShaDig

theorem size_app (x y : ByteArray) : (x ++ y).size = x.size + y.size := ByteArray.size_append
theorem empty_app (x : ByteArray) : (⟨#[]⟩ : ByteArray) ++ x = x := by
  apply Base.ext_toList
  rw [Base.toList_data, Base.toList_data, ByteArray.data_append]
  simp
/-- The hashes of the tree. -/
def emptyH (k : Int) : ByteArray := cut k ⟨#[]⟩
def leafH (k : Int) (d : ByteArray) : ByteArray := cut k ((⟨#[0]⟩ : ByteArray) ++ d)
def nodeH (k : Int) (l r : ByteArray) : ByteArray := cut k ((⟨#[1]⟩ : ByteArray) ++ l ++ r)
theorem emptyH_size (k : Int) : (emptyH k).size = wid k := cut_size _ _
theorem leafH_size (k : Int) (d : ByteArray) : (leafH k d).size = wid k := cut_size _ _
theorem nodeH_size (k : Int) (l r : ByteArray) : (nodeH k l r).size = wid k := cut_size _ _
theorem mk_data (s : ByteArray) : (⟨s.data.toList.toArray⟩ : ByteArray) = s := by cases s; simp
theorem join2 (a b : ByteArray) : (⟨(Lib.join [a.data.toList, b.data.toList] []).toArray⟩ : ByteArray) = a ++ b := by
  apply Base.ext_toList
  rw [Base.toList_data, Base.toList_data, ByteArray.data_append]
  simp [Lib.join, List.intercalate]
theorem join3 (a b c : ByteArray) : (⟨(Lib.join [a.data.toList, b.data.toList, c.data.toList] []).toArray⟩ : ByteArray) = a ++ b ++ c := by
  apply Base.ext_toList
  rw [Base.toList_data, Base.toList_data, ByteArray.data_append, ByteArray.data_append]
  simp [Lib.join, List.intercalate]
theorem hashed_none (k : Int) (w : World) (hT : Tab w) : Calls Tryd.prog 45 #[.int .i64 k, .slice none 0 0] w (Gives (emptyH k) w) := by
  have HJ := Lib.hid (fun W => Join.join_none none 0 ⟨#[]⟩ W)
  have HC := Lib.hid (shaCut_calls ⟨#[]⟩ (by decide) k w hT)
  clear hT
  go_enter Tryd.func45, Tryd.ntmps45
  go_wp2_with fail
  refine (HJ.out w).mono ?_; rintro e w1 ⟨rfl, rfl⟩
  go_wp2_with fail
  refine HC.out.mono ?_; rintro e w2 ⟨rfl, hb⟩
  go_wp2
  go_ret
  exact ⟨rfl, hb⟩
theorem hashed_some (k : Int) (g o c : Nat) (xs : List ByteArray) (s : ByteArray) (w : World) (hT : Tab w) (hc : ∀ (j : Nat) x, xs[j]? = some x → w.cell? ⟨g, o + j, none⟩ = some (.string x)) (hg : g < w.heap.size) (hn : xs.length ≤ 1000) (hcap : xs.length ≤ c)
    (hs : (⟨(Lib.join (xs.map (·.data.toList)) []).toArray⟩ : ByteArray) = s) (hsz : s.size ≤ 281474976710656) (n : Nat) (hn2 : xs.length = n) :
    Calls Tryd.prog 45 #[.int .i64 k, .slice (some ⟨g, o, none⟩) n c] w (Gives (cut k s) w) := by
  have hl : (Lib.join (xs.map (·.data.toList)) []).length = s.size := by rw [← hs]; show _ = Array.size _; simp
  have HJ := Lib.hid (Join.join_some g o c xs ⟨#[]⟩ w hc hg (by omega) hcap (by show (Lib.join (xs.map (·.data.toList)) []).length ≤ _; rw [hl]; exact hsz))
  have HC : Hid (∀ W, Below w.heap.size w W → Calls Tryd.prog 50 #[.string s, .int .i64 k] W (Gives (cut k s) W)) := Lib.hid fun W h => shaCut_calls s (by omega) k W (hT.below h)
  have HS := Lib.hid hs
  rw [hn2] at HJ
  clear hT hc hs hl
  go_enter Tryd.func45, Tryd.ntmps45
  go_wp2_with fail
  refine HJ.out.mono ?_; rintro e w1 ⟨rfl, hb1⟩
  change Below w.heap.size w w1 at hb1
  rw [show (⟨(Lib.join (xs.map (·.data.toList)) (ByteArray.data ⟨#[]⟩).toList).toArray⟩ : ByteArray) = s from HS.out]
  have hz1 := hb1.size
  go_wp2_with fail
  refine (HC.out w1 hb1).mono ?_; rintro e w2 ⟨rfl, hb⟩
  have hb2 := hb1.trans (hb.mono hz1)
  clear hb hb1
  go_wp2
  go_ret
  exact ⟨rfl, hb2⟩
theorem empty_calls (k : Int) (w : World) (hT : Tab w) : Calls Tryd.prog 15 #[.int .i64 k] w (Gives (emptyH k) w) := by
  have H := Lib.hid (hashed_none k w hT)
  clear hT
  go_enter Tryd.func15, Tryd.ntmps15
  go_wp2_with fail
  refine H.out.mono ?_; rintro e w1 ⟨rfl, hb⟩
  go_wp2
  go_ret
  exact ⟨rfl, hb⟩
theorem leaf_calls (k : Int) (d : ByteArray) (hd : d.size ≤ 200000000000000) (w : World) (hT : Tab w) : Calls Tryd.prog 17 #[.int .i64 k, .string d] w (Gives (leafH k d) w) := by
  have hb0 := (Below.refl w.heap.size w).alloc (Nat.le_refl _) (.cells #[.string ⟨#[0]⟩, .string d] 9)
  have hr := Row.new w #[.string ⟨#[0]⟩, .string d] 9
  have H := Lib.hid (hashed_some k w.heap.size 0 2 [⟨#[0]⟩, d] ((⟨#[0]⟩ : ByteArray) ++ d) (w.alloc (.cells #[.string ⟨#[0]⟩, .string d] 9)) (hT.below hb0) (fun j x hx => by
    rw [Nat.zero_add, hr.cell]
    match j, hx with
    | 0, hx => injection hx with hx; rw [← hx]; rfl
    | 1, hx => injection hx with hx; rw [← hx]; rfl
    | j + 2, hx => simp at hx) (by simp) (by simp) (by simp) (join2 ⟨#[0]⟩ d) (by rw [size_app]; show 1 + d.size ≤ _; omega) 2 rfl)
  have HB := Lib.hid hb0
  clear hT hb0 hr
  go_enter Tryd.func17, Tryd.ntmps17
  go_wp2_with fail
  refine H.out.mono ?_; rintro e w1 ⟨rfl, hb⟩
  have hb2 := HB.out.trans (hb.mono (by simp))
  clear hb
  go_wp2
  go_ret
  exact ⟨rfl, hb2⟩
theorem node_calls (k : Int) (l r : ByteArray) (hd : l.size + r.size ≤ 281474976710000) (w : World) (hT : Tab w) : Calls Tryd.prog 19 #[.int .i64 k, .string l, .string r] w (Gives (nodeH k l r) w) := by
  have hb0 := (Below.refl w.heap.size w).alloc (Nat.le_refl _) (.cells #[.string ⟨#[1]⟩, .string l, .string r] 9)
  have hr := Row.new w #[.string ⟨#[1]⟩, .string l, .string r] 9
  have H := Lib.hid (hashed_some k w.heap.size 0 3 [⟨#[1]⟩, l, r] ((⟨#[1]⟩ : ByteArray) ++ l ++ r) (w.alloc (.cells #[.string ⟨#[1]⟩, .string l, .string r] 9)) (hT.below hb0) (fun j x hx => by
    rw [Nat.zero_add, hr.cell]
    match j, hx with
    | 0, hx => injection hx with hx; rw [← hx]; rfl
    | 1, hx => injection hx with hx; rw [← hx]; rfl
    | 2, hx => injection hx with hx; rw [← hx]; rfl
    | j + 3, hx => simp at hx) (by simp) (by simp) (by simp) (join3 ⟨#[1]⟩ l r) (by rw [size_app, size_app]; show 1 + l.size + r.size ≤ _; omega) 3 rfl)
  have HB := Lib.hid hb0
  clear hT hb0 hr
  go_enter Tryd.func19, Tryd.ntmps19
  go_wp2_with fail
  refine H.out.mono ?_; rintro e w1 ⟨rfl, hb⟩
  have hb2 := HB.out.trans (hb.mono (by simp))
  clear hb
  go_wp2
  go_ret
  exact ⟨rfl, hb2⟩
/-! ### the document's -/
theorem refEmpty_calls (k : Int) (w : World) (hT : RTab w) : Calls Tryd.prog 16 #[.int .i64 k] w (Gives (emptyH k) w) := by
  have H := Lib.hid (refCut_calls ⟨#[]⟩ (by decide) k w hT)
  clear hT
  go_enter Tryd.func16, Tryd.ntmps16
  go_wp2_with fail
  refine H.out.mono ?_; rintro e w1 ⟨rfl, hb⟩
  go_wp2
  go_ret
  exact ⟨rfl, hb⟩
theorem refLeaf_calls (k : Int) (d : ByteArray) (hd : d.size ≤ 140737488355000) (w : World) (hT : RTab w) : Calls Tryd.prog 18 #[.int .i64 k, .string d] w (Gives (leafH k d) w) := by
  have hz : (⟨#[0]⟩ ++ d : ByteArray).size = 1 + d.size := size_app _ _
  have H := Lib.hid (refCut_calls ((⟨#[0]⟩ : ByteArray) ++ d) (by omega) k w hT)
  clear hT hz
  go_enter Tryd.func18, Tryd.ntmps18
  go_wp2_with fail
  refine H.out.mono ?_; rintro e w1 ⟨rfl, hb⟩
  go_wp2
  go_ret
  exact ⟨rfl, hb⟩
theorem refNode_calls (k : Int) (l r : ByteArray) (hd : l.size + r.size ≤ 140737488355000) (w : World) (hT : RTab w) : Calls Tryd.prog 20 #[.int .i64 k, .string l, .string r] w (Gives (nodeH k l r) w) := by
  have hz1 : (⟨#[1]⟩ ++ l : ByteArray).size = 1 + l.size := size_app _ _
  have hz : (⟨#[1]⟩ ++ l ++ r : ByteArray).size = 1 + l.size + r.size := by rw [size_app, hz1]
  have H := Lib.hid (refCut_calls ((⟨#[1]⟩ : ByteArray) ++ l ++ r) (by omega) k w hT)
  clear hT hz
  go_enter Tryd.func20, Tryd.ntmps20
  go_wp2_with fail
  refine H.out.mono ?_; rintro e w1 ⟨rfl, hb⟩
  go_wp2
  go_ret
  exact ⟨rfl, hb⟩
end Go.Proofs.YtcenfedmbicofaaDoor.TreeHash
