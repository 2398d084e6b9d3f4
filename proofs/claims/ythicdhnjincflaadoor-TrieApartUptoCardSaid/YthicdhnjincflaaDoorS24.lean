/- What the walks take: PrfB, PrfF, PrfJ. -/
import Derived.Test.YthicdhnjincflaaDoorS4
import Derived.Test.YthicdhnjincflaaDoorS10
import Derived.Test.YthicdhnjincflaaDoorS12
import Derived.Test.YthicdhnjincflaaDoorS13
import Derived.Test.YthicdhnjincflaaDoorS18
import Derived.Test.YthicdhnjincflaaDoorS21
import Derived.Test.YthicdhnjincflaaDoorS22
import Derived.Test.YthicdhnjincflaaDoorS23
import Derived.OrdersIn
import Derived.OwnWalkIn
import Derived.TacticsInMore
import Derived.LoopNIn
import Derived.LoopIn
import Derived.Test.YthicdhnjincflaaDoorShelfR
namespace Go.Proofs.YthicdhnjincflaaDoor
open Go.RowKit Go.Shelf Go.Lib
attribute [local go_sem] Oper.semAt_some
/-- blocks below a bound read as before -/
def KeepB (B1 : Nat) (W W' : World) : Prop := W.heap.size ≤ W'.heap.size ∧ ∀ g, g < B1 → W'.heap[g]? = W.heap[g]?
theorem KeepB.trans {B1 : Nat} {A B C : World} (h : KeepB B1 A B) (k : KeepB B1 B C) : KeepB B1 A C := ⟨Nat.le_trans h.1 k.1, fun g hg => (k.2 g hg).trans (h.2 g hg)⟩
theorem KeepB.below {B1 : Nat} {A B : World} (h : Below A.heap.size A B) (h1 : B1 ≤ A.heap.size) : KeepB B1 A B := ⟨h.size, fun g hg => h.block g (by omega)⟩
theorem KeepB.refl (B1 : Nat) (W : World) : KeepB B1 W W := ⟨Nat.le_refl _, fun _ _ => rfl⟩
end Go.Proofs.YthicdhnjincflaaDoor
/- Contracts of proof.isRef and proof.isNode. -/
namespace Go.Proofs.YthicdhnjincflaaDoor
open Go.RowKit Go.Shelf Go.Lib
attribute [local go_sem] Oper.semAt_some
/-- an item that can be written as bytes -/
def Small (x : Item) : Prop := wrong x = false ∧ (put x).length ≤ 65536
theorem Small.size {x : Item} (h : Small x) : x.size ≤ 65536 := Nat.le_trans ((size_put x.size).1 x (Nat.le_refl _) h.1) h.2
theorem Small.child {x y : Item} (h : Small x) (hy : y ∈ x.list) : Small y ∧ y.size < x.size := by
  have hsz : y.size < x.size := by
    obtain ⟨i, hi⟩ := List.getElem?_of_mem hy
    exact size_child hi
  refine ⟨?_, hsz⟩
  cases x with
  | mk b t l =>
    cases b with
    | false =>
      have h1 : wrong (.mk false t l) = false := h.1
      rw [wrong_eq] at h1
      have h2 : (!l.isEmpty) = false := h1
      have : l = [] := by simpa using h2
      subst this
      cases hy
    | true =>
      have h1 : wrong (.mk true t l) = false := h.1
      rw [wrong_eq] at h1
      have h2 : (!t.isEmpty || l.any wrong) = false := h1
      have h3 := List.any_eq_false.1 (Bool.or_eq_false_iff.1 h2).2 y hy
      have h4 := tp_mem (show y ∈ l from hy)
      have h5 : (putAll l).length + 1 ≤ (put (.mk true t l)).length := (tp_framed (putAll l) 192).1
      have h6 := h.2
      have h7 : l.length ≠ 0 := fun e => by rw [List.length_eq_zero_iff.1 e] at hy; cases hy
      exact ⟨by simpa using h3, by omega⟩
theorem Small.text {x : Item} (h : Small x) : x.text.length ≤ 65536 := by
  cases x with
  | mk b t l =>
    cases b with
    | false => exact Nat.le_trans (putText_ge t) h.2
    | true =>
      have h1 : wrong (.mk true t l) = false := h.1
      rw [wrong_eq] at h1
      have h2 : (!t.isEmpty || l.any wrong) = false := h1
      have h3 := (Bool.or_eq_false_iff.1 h2).1
      have : t = [] := by simpa using h3
      subst this
      simp [Item.text]
theorem keepsFrom_below {B : Nat} {W W' : World} (h : Below W.heap.size W W') : KeepsFrom B W W' := ⟨h.size, fun k _ _ hk _ => (h.block k (Array.getElem?_eq_some_iff.1 hk).1).trans hk⟩
end Go.Proofs.YthicdhnjincflaaDoor

namespace Go.Proofs.YthicdhnjincflaaDoor
open Go.RowKit Go.Shelf Go.Lib
attribute [local go_sem] Oper.semAt_some
theorem KecT.belowP {w W : World} (h : KecT w) (hb : Below w.heap.size w W) : KecT W := by
  have key : ∀ g i v, w.cell? ⟨g, i, none⟩ = some v → W.cell? ⟨g, i, none⟩ = some v := fun g i v hc =>
    (World.cell?_of_block (hb.block g (World.block_lt_of_cell? w _ hc))).trans hc
  exact ⟨fun t ht => key _ _ _ (h.places t ht), fun t ht => key _ _ _ (h.turns t ht), fun t ht => key _ _ _ (h.consts t ht)⟩
/-- texts that lie below a bound -/
def StrsB (B : Nat) (w : World) (v : Value) (xs : List ByteArray) : Prop :=
  ∃ p c, v = .slice p xs.length c ∧ xs.length ≤ c ∧ (xs = [] ∨ ∃ bk o, p = some ⟨bk, o, none⟩ ∧ bk < B ∧ ∀ (j : Nat) x, xs[j]? = some x → w.cell? ⟨bk, o + j, none⟩ = some (.string x))
theorem StrsB.below {B : Nat} {w w' : World} {v : Value} {xs : List ByteArray} (h : StrsB B w v xs) (hb : Below B w w') : StrsB B w' v xs := by
  obtain ⟨p, c, hv, hc, h⟩ := h
  refine ⟨p, c, hv, hc, ?_⟩
  rcases h with h | ⟨bk, o, hp, hk, h⟩
  · exact .inl h
  · exact .inr ⟨bk, o, hp, hk, fun j x hx => (hb.cell (p := ⟨bk, o + j, none⟩) hk).trans (h j x hx)⟩
theorem StrsB.at {B : Nat} {w : World} {p : Option Addr} {n c : Nat} {x : ByteArray} {xs : List ByteArray} (h : StrsB B w (.slice p n c) (x :: xs)) :
    ∃ bk o, p = some ⟨bk, o, none⟩ ∧ bk < B ∧ n = xs.length + 1 ∧ xs.length + 1 ≤ c ∧ w.cell? ⟨bk, o, none⟩ = some (.string x) ∧ ∀ (j : Nat) y, xs[j]? = some y → w.cell? ⟨bk, o + 1 + j, none⟩ = some (.string y) := by
  obtain ⟨p', c', hv, hc, h⟩ := h
  cases hv
  rcases h with h | ⟨bk, o, hp, hk, h⟩
  · cases h
  · refine ⟨bk, o, hp, hk, rfl, hc, h 0 x rfl, fun j y hy => ?_⟩
    have := h (j + 1) y hy
    rwa [show o + (j + 1) = o + 1 + j by omega] at this
/-- what a walk does to the world: all below a bound stays, and all blocks that were there but the walk's own -/
def Upd (B wb : Nat) (w w' : World) : Prop := Below B w w' ∧ w.heap.size ≤ w'.heap.size ∧ ∀ g, g < w.heap.size → g ≠ wb → w'.heap[g]? = w.heap[g]?
theorem Upd.of_below {B wb : Nat} {w w' : World} (h : Below w.heap.size w w') (hB : B ≤ w.heap.size) : Upd B wb w w' := ⟨h.mono hB, h.size, fun g hg _ => h.block g hg⟩
theorem Upd.trans {B wb : Nat} {w w' w'' : World} (h : Upd B wb w w') (k : Upd B wb w' w'') : Upd B wb w w'' := ⟨h.1.trans k.1, Nat.le_trans h.2.1 k.2.1, fun g hg hne => (k.2.2 g (Nat.lt_of_lt_of_le hg h.2.1) hne).trans (h.2.2 g hg hne)⟩
theorem Upd.set {B wb : Nat} (w : World) (hB : B ≤ wb) (j : Nat) (v : Value) : Upd B wb w (w.setCell ⟨wb, j, none⟩ v) := ⟨(Below.refl _ _).setCell (p := ⟨wb, j, none⟩) hB v, by simp, fun g _ hne => Below.heap_setCell _ _ _ _ hne⟩
/-- items do not lie in a walk's block -/
theorem ReadsIn.otherW {w : World} {A : Nat → Prop} {v : Value} {xs : List Item} (h : ReadsIn w A v xs) {q : Nat} {a b : ByteArray} {u : Value} {t : TypeId} (hq : HasCells w q [.string a, u, .string b] t) (hu : ∃ p n c, u = .slice p n c) : ReadsIn w (fun g => A g ∧ g ≠ q) v xs := by
  obtain ⟨k, h⟩ := h
  refine ⟨k, ?_⟩
  induction k generalizing v xs with
  | zero => exact h.elim
  | succ k ih =>
    obtain ⟨p, cap, hv, hl, h⟩ := h
    refine ⟨p, cap, hv, hl, ?_⟩
    rcases h with h | ⟨g, o, hp, hg, h⟩
    · exact .inl h
    · cases xs with
      | nil => exact .inl rfl
      | cons y r =>
        refine .inr ⟨g, o, hp, ⟨hg, fun e => ?_⟩, fun i x hx => ?_⟩
        · subst e
          obtain ⟨h1, _⟩ := h 0 y rfl
          have hb : w.heap[g]? = _ := hq
          rw [World.cell?, hb] at h1
          obtain ⟨p2, n2, c2, rfl⟩ := hu
          simp only [List.getElem?_toArray] at h1
          have h4 := List.mem_of_getElem? h1
          simp at h4
        · obtain ⟨h1, h2, v', h3, h4⟩ := h i x hx
          exact ⟨h1, h2, v', h3, ih h4⟩
theorem Reads.upd {B wb : Nat} {w w' : World} {v : Value} {xs : List Item} (h : Reads w w.heap.size v xs) (hu : Upd B wb w w') {a b : ByteArray} {u : Value} {t : TypeId} (hq : HasCells w wb [.string a, u, .string b] t) (hs : ∃ p n c, u = .slice p n c) : Reads w' w'.heap.size v xs :=
  ReadsIn.kept (h.otherW hq hs) (fun g _ o hg hc => (World.cell?_of_block (a := ⟨g, o, none⟩) (hu.2.2 g hg.1 hg.2)).trans hc) (fun _ hg => Nat.lt_of_lt_of_le hg.1 hu.2.1)
/-- an item that lies below the heap's end and not in one block -/
def RZ (z : Nat) (w : World) (v : Value) (xs : List Item) : Prop := ReadsIn w (fun g => g < w.heap.size ∧ g ≠ z) v xs
theorem RZ.reads {z : Nat} {w : World} {v : Value} {xs : List Item} (h : RZ z w v xs) : Reads w w.heap.size v xs := ReadsIn.mono h (fun _ hg => hg.1)
theorem RZ.below {z : Nat} {w w' : World} {v : Value} {xs : List Item} (h : RZ z w v xs) (hb : Below w.heap.size w w') : RZ z w' v xs :=
  ReadsIn.kept h (fun g _ o hg hc => (hb.cell (p := ⟨g, o, none⟩) hg.1).trans hc) (fun _ hg => ⟨Nat.lt_of_lt_of_le hg.1 hb.size, hg.2⟩)
theorem RZ.upd {B wb z : Nat} {w w' : World} {v : Value} {xs : List Item} (h : RZ z w v xs) (hu : Upd B wb w w') {a b : ByteArray} {u : Value} {t : TypeId} (hq : HasCells w wb [.string a, u, .string b] t) (hs : ∃ p n c, u = .slice p n c) : RZ z w' v xs :=
  ReadsIn.kept (ReadsIn.otherW h hq hs) (fun g _ o hg hc => (World.cell?_of_block (a := ⟨g, o, none⟩) (hu.2.2 g hg.1.1 hg.2)).trans hc) (fun _ hg => ⟨Nat.lt_of_lt_of_le hg.1.1 hu.2.1, hg.1.2⟩)
end Go.Proofs.YthicdhnjincflaaDoor
/- Contract of the walk's node at a reference that is a text. -/
namespace Go.Proofs.YthicdhnjincflaaDoor
open Go.RowKit Go.Shelf Go.Lib
attribute [local go_sem] Oper.semAt_some
theorem kecOne_l {l k : List UInt8} (hk : keccakL l = k) (bk ob : Nat) (W : World) (hc : W.cell? ⟨bk, ob, none⟩ = some (.string ⟨l.toArray⟩)) (hlen : l.length ≤ 1099511627776) (hK : KecT W) : Calls Tryd.prog 37 #[.slice (some ⟨bk, ob, none⟩) 1 1] W fun e w' => e = .returned (.string ⟨k.toArray⟩) ∧ Below W.heap.size W w' := by
  subst hk
  have hl : lettersOf [(⟨l.toArray⟩ : ByteArray)] = l := by simp [lettersOf]
  have h := kecSum_any (.slice (some ⟨bk, ob, none⟩) 1 1) [⟨l.toArray⟩] W ⟨_, _, rfl, Nat.le_refl 1, .inr ⟨bk, ob, rfl, World.block_lt_of_cell? W _ hc, fun j x hx => by
    match j, hx with
    | 0, hx => cases hx; exact hc⟩⟩ (by simp) (by rw [hl]; exact hlen) hK
  rw [hl] at h
  exact h
end Go.Proofs.YthicdhnjincflaaDoor
/- Contract of the walk's step. -/
namespace Go.Proofs.YthicdhnjincflaaDoor
open Go.RowKit Go.Shelf Go.Lib
attribute [local go_sem] Oper.semAt_some
/-- three stores in a block above -/
theorem three_at {B g : Nat} {w w' : World} (h : Below B w w') (hg : B ≤ g) (v0 v1 v2 : Value) : Below B w (((w'.setCell ⟨g, 0, none⟩ v0).setCell ⟨g, 1, none⟩ v1).setCell ⟨g, 2, none⟩ v2) :=
  ((h.setCell (p := ⟨g, 0, none⟩) hg v0).setCell (p := ⟨g, 1, none⟩) hg v1).setCell (p := ⟨g, 2, none⟩) hg v2
theorem HasCells.threeOther {W : World} {q g : Nat} {cs : List Value} {t : TypeId} (h : HasCells W q cs t) (hne : q ≠ g) (v0 v1 v2 : Value) : HasCells (((W.setCell ⟨g, 0, none⟩ v0).setCell ⟨g, 1, none⟩ v1).setCell ⟨g, 2, none⟩ v2) q cs t :=
  ((h.setOther hne v0).setOther hne v1).setOther hne v2
end Go.Proofs.YthicdhnjincflaaDoor
/- Contract of the walk's step at a list of two. -/
namespace Go.Proofs.YthicdhnjincflaaDoor
open Go.RowKit Go.Shelf Go.Lib
attribute [local go_sem] Oper.semAt_some
theorem cut_l {path rp tp : List UInt8} {hp : Bool} (h1 : Lib.trimPrefix path rp = tp) (h2 : Lib.hasPrefix path rp = hp) (w : World) :
    Calls Tryd.prog 51 #[.string ⟨path.toArray⟩, .string ⟨rp.toArray⟩] w fun e w' => e = .returned (.tuple #[.string ⟨tp.toArray⟩, .bool hp]) ∧ w' = w := by
  subst h1 h2
  exact Tryd.strings_CutPrefix ⟨path.toArray⟩ ⟨rp.toArray⟩ w
end Go.Proofs.YthicdhnjincflaaDoor

namespace Go.Proofs.YthicdhnjincflaaDoor
open Go.RowKit Go.Shelf Go.Lib
attribute [local go_sem] Oper.semAt_some
theorem Strs.cell {w : World} {p : Option Addr} {n c : Nat} {xs : List ByteArray} (h : Strs w (.slice p n c) xs) (hne : xs ≠ []) : ∃ bk o, p = some ⟨bk, o, none⟩ ∧ bk < w.heap.size ∧ ∀ (j : Nat) x, xs[j]? = some x → w.cell? ⟨bk, o + j, none⟩ = some (.string x) := by
  obtain ⟨p', c', hv, _, h⟩ := h
  cases hv
  rcases h with h | h
  · exact absurd h hne
  · exact h
end Go.Proofs.YthicdhnjincflaaDoor
/- proof.Check: the tests ahead of the walk. -/
namespace Go.Proofs.YthicdhnjincflaaDoor
open Go.RowKit Go.Shelf Go.Lib
attribute [local go_sem] Oper.semAt_some
end Go.Proofs.YthicdhnjincflaaDoor
/- proof.Check: the walk. -/
namespace Go.Proofs.YthicdhnjincflaaDoor
open Go.RowKit Go.Shelf Go.Lib
attribute [local go_sem] Oper.semAt_some
set_option maxHeartbeats 1600000 in
theorem rlpText_any (s : List UInt8) (w : World) : Calls Tryd.prog 39 #[.string ⟨s.toArray⟩] w fun e w' => e = .returned (.agg #[.bool false, .string ⟨s.toArray⟩, .slice none 0 0]) ∧ Below w.heap.size w w' := by
  go_enter Tryd.func39, Tryd.ntmps39
  go_wp2_with fail
  refine bodyPost_ret (results_cells rfl _ _ w.heap.size [.bool false, .string ⟨s.toArray⟩, .slice none 0 0] _ (by rfl) (HasCells.new w [.bool false, .string ⟨s.toArray⟩, .slice none 0 0] 58).range Tryd.underlying58 rfl infoItemS) rfl ?_
  exact ⟨rfl, laid1 w _⟩
/-- what stands between two rounds of Check's walk -/
def RoundC (B wb z : Nat) (root : List UInt8) (path : List UInt8) (l : List (List UInt8)) (gg : Nat) (W : World) : Prop :=
  ∃ (f : Nat) (y : Item) (pth : List UInt8) (rest : List (List UInt8)) (xp : Option Addr) (xn xc : Nat) (q : Option Addr) (c : Nat),
    pth.length ≤ gg ∧ pth.length < f ∧ underP keccakL f y pth rest = underP keccakL 129 (txtI root) path l ∧ isPath pth = true ∧ pth.length ≤ 128 ∧
    HasCells W wb [.string ⟨pth.toArray⟩, .slice q rest.length c, .string ⟨#[]⟩] 55 ∧ HasCells W z [.bool y.isList, .string ⟨y.text.toArray⟩, .slice xp xn xc] 58 ∧
    RZ z W (.slice xp xn xc) y.list ∧ (y.isList = true → Small y) ∧ StrsB B W (.slice q rest.length c) (rest.map bt) ∧ (∀ t ∈ rest, t.length ≤ 65536) ∧ rest.length ≤ 140 ∧ (∀ W', Below B W W' → KecT W') ∧ B ≤ wb ∧ wb < z
theorem nodeOf_rest {ref x : Item} {rest rest2 : List (List UInt8)} (h : nodeOf keccakL ref rest = some (x, rest2)) : rest2 = rest ∨ ∃ s, rest = s :: rest2 := by
  have h2 := (node_node keccakL h).2
  unfold openP at h2
  split at h2
  · simp only [Option.some.injEq, Prod.mk.injEq] at h2
    exact .inl h2.2.symm
  · split at h2
    · cases h2
    · rename_i s r
      split at h2
      · simp only [Option.some.injEq, Prod.mk.injEq] at h2
        exact .inr ⟨s, by rw [h2.2]⟩
      · cases h2
theorem RoundC.start {root path s : List UInt8} {l : List (List UInt8)} {n c : Nat} {p : Option Addr} {w1 w2 w3 : World} (hn : l.length = n) (hp : path.length ≤ 128) (hip : isPath path = true)
    (hs : StrsB w1.heap.size w1 (.slice p (n + 1) c) ((s :: l).map bt)) (hb2 : Below w1.heap.size w1 w2)
    (hb3 : Below (w2.alloc (.cells #[.string ⟨path.toArray⟩, .slice p (n + 1) c, .string ⟨#[]⟩] 55)).heap.size (w2.alloc (.cells #[.string ⟨path.toArray⟩, .slice p (n + 1) c, .string ⟨#[]⟩] 55)) w3)
    (h64 : ∀ t ∈ s :: l, t.length ≤ 65536) (h140 : (s :: l).length ≤ 140) (hK : KecT w1) :
    RoundC w1.heap.size w2.heap.size w3.heap.size root path (s :: l) 128 (w3.alloc (.cells #[.bool false, .string ⟨root.toArray⟩, .slice none 0 0] 58)) ∧ Below w1.heap.size w1 (w3.alloc (.cells #[.bool false, .string ⟨root.toArray⟩, .slice none 0 0] 58)) := by
  subst hn
  have hb23 : Below w1.heap.size w1 w3 := hb2.trans (((laid1 w2 _).mono hb2.size).trans (hb3.mono (by have := hb2.size; simp; omega)))
  refine ⟨?_, hb23.alloc hb23.size _⟩
  refine ⟨129, txtI root, path, s :: l, none, 0, 0, p, c, hp, by omega, rfl, hip, hp, ?_, HasCells.new w3 [.bool false, .string ⟨root.toArray⟩, .slice none 0 0] _, ReadsIn.nil _ _, fun h => (by cases h), ?_, h64, h140, fun W' hb => hK.belowP ((hb23.alloc hb23.size _).trans hb), hb2.size, ?_⟩
  · exact ((HasCells.new w2 [.string ⟨path.toArray⟩, .slice p (l.length + 1) c, .string ⟨#[]⟩] _).after hb3).alloc _
  · exact hs.below (hb23.alloc hb23.size _)
  · have := hb3.size
    simp at this
    omega
theorem RoundC.next {B wb z : Nat} {root path pth p2 : List UInt8} {l rest rest2 : List (List UInt8)} {y x y2 : Item} {f1 g' : Nat} {xp3 : Option Addr} {xn3 xc3 : Nat} {q2 : Option Addr} {c2 : Nat} {wr w5 : World} {a b u : Value}
    (hnd : nodeOf keccakL y rest = some (x, rest2)) (hst : stepP x pth = .next y2 p2) (hf : pth.length < f1 + 1) (hg : p2.length ≤ g')
    (hun : underP keccakL (f1 + 1) y pth rest = underP keccakL 129 (txtI root) path l) (hu1 : underP keccakL (f1 + 1) y pth rest = underP keccakL f1 y2 p2 rest2) (hpt : isPath pth = true) (h128 : pth.length ≤ 128)
    (hw6 : HasCells w5 wb [.string ⟨p2.toArray⟩, .slice q2 rest2.length c2, .string ⟨#[]⟩] 55) (hz7 : HasCells (w5.alloc (.cells #[.bool y2.isList, .string ⟨y2.text.toArray⟩, .slice xp3 xn3 xc3] 58)) z [a, b, u] 58) (hrz : RZ z w5 (.slice xp3 xn3 xc3) y2.list) (hsm2 : Small x)
    (hst2 : StrsB B w5 (.slice q2 rest2.length c2) (rest2.map bt)) (h64 : ∀ t ∈ rest, t.length ≤ 65536) (h140 : rest.length ≤ 140) (hkt : ∀ W', Below B wr W' → KecT W') (hB5 : B ≤ w5.heap.size) (hBw : B ≤ wb) (hwz : wb < z) (hb5 : Below B wr w5) :
    RoundC B wb z root path l g' ((((w5.alloc (.cells #[.bool y2.isList, .string ⟨y2.text.toArray⟩, .slice xp3 xn3 xc3] 58)).setCell ⟨z, 0, none⟩ (.bool y2.isList)).setCell ⟨z, 1, none⟩ (.string ⟨y2.text.toArray⟩)).setCell ⟨z, 2, none⟩ (.slice xp3 xn3 xc3)) := by
  have hnx := (node_node keccakL hnd).1
  have hsh := step_short hnx hst
  have hb8 := laid1 w5 (.cells #[.bool y2.isList, .string ⟨y2.text.toArray⟩, .slice xp3 xn3 xc3] 58)
  have hb9 := three_at (hb8.mono hB5) (show B ≤ z by omega) (.bool y2.isList) (.string ⟨y2.text.toArray⟩) (.slice xp3 xn3 xc3)
  have hr := nodeOf_rest hnd
  refine ⟨f1, y2, p2, rest2, xp3, xn3, xc3, q2, c2, hg, by omega, hu1.symm.trans hun, hsh.2 hpt, by omega, (hw6.alloc _).threeOther (by omega) _ _ _, ((hz7.set 0 _).set 1 _).set 2 _, ?_, fun _ => (hsm2.child (step_mem hnx hst hpt).1).1, hst2.below hb9, ?_, ?_, ?_, hBw, hwz⟩
  · exact ReadsIn.kept (hrz.below hb8) (fun g _ o hg hc => three_other hc hg.2 _ _ _) (fun g hg => ⟨by simpa using hg.1, hg.2⟩)
  · rcases hr with rfl | ⟨s, rfl⟩
    · exact h64
    · exact fun t ht => h64 t (List.mem_cons_of_mem _ ht)
  · rcases hr with rfl | ⟨s, rfl⟩
    · exact h140
    · simp at h140; omega
  · exact fun W' hb => hkt W' (hb5.trans (hb9.trans hb))
end Go.Proofs.YthicdhnjincflaaDoor
/- Contract of pharosref03.Clash. -/
namespace Go.Proofs.YthicdhnjincflaaDoor
open Go.RowKit Go.Shelf Go.Lib
attribute [local go_sem] Oper.semAt_some
/-- a text's digest -/
def kecB (x : ByteArray) : ByteArray := ⟨(keccakL x.data.toList).toArray⟩
/-- two texts are unlike and have one digest -/
def HasClashK (xs : List ByteArray) : Prop := ∃ s t, s ∈ xs ∧ t ∈ xs ∧ s ≠ t ∧ kecB s = kecB t
theorem HasClashK.places {xs : List ByteArray} (h : HasClashK xs) : ∃ (i k : Nat) (s t : ByteArray), k < i ∧ xs[i]? = some s ∧ xs[k]? = some t ∧ s ≠ t ∧ kecB s = kecB t := by
  obtain ⟨s, t, hs, ht, hn, he⟩ := h
  obtain ⟨i, hi⟩ := List.mem_iff_getElem?.1 hs
  obtain ⟨k, hk⟩ := List.mem_iff_getElem?.1 ht
  rcases Nat.lt_trichotomy i k with h | h | h
  · exact ⟨k, i, t, s, h, hk, hi, fun e => hn e.symm, he.symm⟩
  · subst h
    rw [hi] at hk
    exact absurd (Option.some.inj hk) hn
  · exact ⟨i, k, s, t, h, hi, hk, hn, he⟩
/-- two texts in their places are unlike and have one sum -/
def ClashAt (xs : List ByteArray) (i k : Nat) : Prop := ∃ s t, xs[i]? = some s ∧ xs[k]? = some t ∧ s ≠ t ∧ kecB s = kecB t
theorem neq_texts {x y : ByteArray} (h : x ≠ y) : (x.toList == y.toList) = false := by
  rw [beq_eq_false_iff_ne]
  intro e
  exact h (ByteArray.toList_inj' e)
where
  ByteArray.toList_inj' {x y : ByteArray} (e : x.toList = y.toList) : x = y := by
    rw [ByteArray.toList_eq, ByteArray.toList_eq] at e
    exact ByteArray.ext (Array.toList_inj.1 e)
theorem rksum_kecB (s : ByteArray) (w : World) (hs : s.size ≤ 1099511627776) : Calls Tryd.prog 33 #[.string s] w fun e w' => e = .returned (.string (kecB s)) ∧ Below w.heap.size w w' := rkSum_any s w hs
set_option maxRecDepth 100000 in
set_option maxHeartbeats 3200000 in
theorem clash_any (v : Value) (xs : List ByteArray) (w : World) (hv : Strs w v xs) (hN : xs.length ≤ 1048576) (hxs : ∀ x ∈ xs, x.size ≤ 1099511627776) :
    Calls Tryd.prog 21 #[v] w fun e w' => (∃ b, e = .returned (.bool b) ∧ (HasClashK xs → b = true)) ∧ Below w.heap.size w w' := by
  obtain ⟨p, c, rfl, hc, hcell⟩ := hv
  have HC := Lib.hid hcell
  have HS := Lib.hid (fun k x (h : xs[k]? = some x) W => rksum_kecB x W (hxs x (List.mem_of_getElem? h)))
  obtain ⟨n, hn⟩ : ∃ n, xs.length = n := ⟨_, rfl⟩
  rw [hn] at hN hc ⊢
  have HN := Lib.hid hn
  clear hcell hxs hn
  go_enter Tryd.func21, Tryd.ntmps21
  go_wp2_with fail
  go_loopw [3, 4] (fun v i wr => ∃ k : Nat, k ≤ n ∧ i = .int .i64 k ∧ Aside (OwnS w.heap.size wr v ((xs.take k).map kecB)) ∧ Aside (Below w.heap.size w wr)) (fun _ i _ => n - (RowKit.intOf i).toNat)
  case atStart => exact ⟨0, Nat.zero_le _, rfl, OwnS.nil _ _, Below.refl _ _⟩
  case round =>
    obtain ⟨k, hk, rfl, HO, HB⟩ := hrel
    by_cases hlt : k < n
    · obtain ⟨x, hx⟩ : ∃ x, xs[k]? = some x := ⟨_, List.getElem?_eq_getElem (by rw [HN.out]; exact hlt)⟩
      obtain ⟨bk, o, rfl, hbk, hcl⟩ : ∃ bk o, p = some ⟨bk, o, none⟩ ∧ bk < w.heap.size ∧ ∀ (j : Nat) x, xs[j]? = some x → w.cell? ⟨bk, o + j, none⟩ = some (.string x) := by
        rcases HC.out with h | ⟨bk, o, h1, h2, h3⟩
        · rw [h] at hx; cases hx
        · exact ⟨bk, o, h1, h2, h3⟩
      have c0 : wr.cell? ⟨bk, o + k, none⟩ = some (.string x) := (HB.out.cell (p := ⟨bk, o + k, none⟩) hbk).trans (hcl k x hx)
      have H1 := Lib.hid (HS.out k x hx)
      have hts : (xs.take (k + 1)).map kecB = (xs.take k).map kecB ++ [kecB x] := by rw [List.take_add_one, hx]; simp
      have hll : ((xs.take k).map kecB).length = k := by rw [List.length_map, List.length_take, HN.out]; omega
      obtain ⟨L, hL⟩ : ∃ L, (xs.take k).map kecB = L := ⟨_, rfl⟩
      have ho := HO.out
      rw [hL] at hts hll ho
      obtain ⟨pv, cv, hv⟩ := ho.form
      rw [hll] at hv
      subst hv
      obtain ⟨sx, hsx⟩ : ∃ sx, kecB x = sx := ⟨_, rfl⟩
      rw [hsx] at hts H1
      have HO1 := Lib.hid ho
      have HTS := Lib.hid hts
      have HLL := Lib.hid hll
      have g1 : (0 : Int) ≤ k := by omega
      have g2 : (k : Int) < n := by omega
      clear ho hts hll hL hsx HO hcl hx
      go_wp2_with fail
      refine (H1.out _).mono ?_
      rintro e w1 ⟨rfl, hb1⟩
      have HO2 := Lib.hid (HO1.out.after hb1)
      have HB1 := Lib.hid (HB.out.trans (hb1.mono HB.out.size))
      clear hb1 HO1 HB c0
      go_wp2_with (at_builtin; refine wpList_appendT rfl _ _ 23 rfl w.heap.size Tryd.underlying23 infoStr _ L rfl (HO2.out.kept (World.grownBy_alloc w1 _ none) (by cases hv : (Value.slice pv k cv).ownBlock <;> simp)) ⟨w1.heap.size, 0, none⟩ 1 sx rfl ?c0 ?c1 ?c2 ?_)
      case c0 => exact cells_new_at rfl [.string sx] 9 0 _ rfl
      case c1 => rw [HLL.out]; omega
      case c2 => have := HB1.out.size; simp; omega
      intro v3 w3 ho3 hg3
      have hb3 : Below w.heap.size w w3 := (HB1.out.alloc HB1.out.size _).grown hg3 (by have := HB1.out.size; simp; omega) (fun r e => (HO2.out.lt r e).1)
      rw [← HTS.out] at ho3
      have HO3 := Lib.hid ho3
      have HB3 := Lib.hid hb3
      clear ho3 hg3 hb3 HO2 HB1
      go_wp2
      go_roundw
      case rel => exact ⟨k + 1, by omega, by go_num, HO3.out, HB3.out⟩
      case measure => simp [RowKit.intOf]; omega
    · obtain rfl : k = n := by omega
      have ho := HO.out
      rw [List.take_of_length_le (by rw [HN.out]; omega)] at ho
      obtain ⟨pv, cv, hv⟩ := ho.form
      rw [List.length_map, HN.out] at hv
      subst hv
      have HO2 := Lib.hid ho
      obtain ⟨w2, hw2⟩ : ∃ w2, wr = w2 := ⟨_, rfl⟩
      rw [hw2] at HO2 HB ⊢
      clear ho HO hw2 wr hlt hk
      go_wp2_with fail
      go_loopw [5] (fun i wr => ∃ i' : Nat, i' ≤ k ∧ i = .int .i64 i' ∧ Aside (∀ a b, b < a → a < i' → ¬ ClashAt xs a b) ∧ Aside (Below w2.heap.size w2 wr)) (fun i _ => k - (RowKit.intOf i).toNat)
      case atStart => exact ⟨0, Nat.zero_le _, rfl, (fun a b _ h => absurd h (Nat.not_lt_zero _)), Below.refl _ _⟩
      case round =>
        obtain ⟨i, hi, rfl, HNC, HBi⟩ := hrel
        obtain ⟨w3, hw3⟩ : ∃ w3, wr = w3 := ⟨_, rfl⟩
        rw [hw3] at HBi ⊢
        clear hw3 wr
        by_cases hlt : i < k
        · obtain ⟨x, hx⟩ : ∃ x, xs[i]? = some x := ⟨_, List.getElem?_eq_getElem (by rw [HN.out]; exact hlt)⟩
          obtain ⟨bk, o, rfl, hbk, hcl⟩ : ∃ bk o, p = some ⟨bk, o, none⟩ ∧ bk < w.heap.size ∧ ∀ (j : Nat) x, xs[j]? = some x → w.cell? ⟨bk, o + j, none⟩ = some (.string x) := by
            rcases HC.out with h | ⟨bk, o, h1, h2, h3⟩
            · rw [h] at hx; cases hx
            · exact ⟨bk, o, h1, h2, h3⟩
          have hop := HO2.out.opened (by rw [List.length_map, HN.out]; omega)
          obtain ⟨g, cg, hvg, hg0, hg1, hgc, -⟩ := hop
          rw [List.length_map, HN.out] at hvg
          cases hvg
          have HGC := Lib.hid hgc
          have HCL := Lib.hid hcl
          have HX := Lib.hid hx
          have g1 : (0 : Int) ≤ i := by omega
          have g2 : (i : Int) < k := by omega
          clear hgc hcl hx
          go_wp2_with fail
          go_loopw [6] (fun j wr => ∃ k' : Nat, k' ≤ i ∧ j = .int .i64 k' ∧ Aside (∀ b, b < k' → ¬ ClashAt xs i b) ∧ Aside (Below w2.heap.size w2 wr)) (fun j _ => i - (RowKit.intOf j).toNat)
          case atStart => exact ⟨0, Nat.zero_le _, rfl, (fun b h => absurd h (Nat.not_lt_zero _)), HBi.out⟩
          case round =>
            clear HBi
            obtain ⟨m, hm, rfl, HNM, HBm⟩ := hrel
            by_cases hlm : m < i
            · obtain ⟨y, hy⟩ : ∃ y, xs[m]? = some y := ⟨_, List.getElem?_eq_getElem (by rw [HN.out]; omega)⟩
              have hx := HX.out
              have g3 : (0 : Int) ≤ m := by omega
              have g4 : (m : Int) < i := by omega
              have g5 : (m : Int) < k := by omega
              have hS : ∀ W', Below w2.heap.size w2 W' → W'.cell? ⟨bk, o + i, none⟩ = some (.string x) ∧ W'.cell? ⟨bk, o + m, none⟩ = some (.string y) ∧ W'.cell? ⟨g, i, none⟩ = some (.string (kecB x)) ∧ W'.cell? ⟨g, m, none⟩ = some (.string (kecB y)) := fun W' hb =>
                have hb' : Below w.heap.size w W' := HB.out.trans (hb.mono HB.out.size)
                ⟨(hb'.cell (p := ⟨bk, o + i, none⟩) hbk).trans (HCL.out i x hx), (hb'.cell (p := ⟨bk, o + m, none⟩) hbk).trans (HCL.out m y hy),
                  (hb.cell (p := ⟨g, i, none⟩) hg1).trans (HGC.out i _ (by rw [List.getElem?_map, hx]; rfl)), (hb.cell (p := ⟨g, m, none⟩) hg1).trans (HGC.out m _ (by rw [List.getElem?_map, hy]; rfl))⟩
              obtain ⟨sx, hsx⟩ : ∃ sx, kecB x = sx := ⟨_, rfl⟩
              obtain ⟨sy, hsy⟩ : ∃ sy, kecB y = sy := ⟨_, rfl⟩
              rw [hsx, hsy] at hS
              have hat : ¬ (x ≠ y ∧ sx = sy) → ¬ ClashAt xs i m := by
                rintro h ⟨s, t, h1, h2, h3, h4⟩
                rw [hx] at h1; rw [hy] at h2
                cases h1; cases h2
                exact h ⟨h3, by rw [← hsx, ← hsy]; exact h4⟩
              have HSW := Lib.hid hS
              have HAT := Lib.hid hat
              clear hS hat hsx hsy hx hy
              by_cases hxy : x = y
              · subst hxy
                go_wp2_with fail
                refine wp_region_held_drew (S := (fun W => W.cell? ⟨bk, o + i, none⟩ = some (.string x) ∧ W.cell? ⟨bk, o + m, none⟩ = some (.string x) ∧ W.cell? ⟨g, i, none⟩ = some (.string sx) ∧ W.cell? ⟨g, m, none⟩ = some (.string sy))) (by kernel_rfl) (HSW.out _ HBm.out.drew) (fun hHeld => ?_)
                refine wpAnyH_take (i := 0) (v := ?_) rfl (by kernel_rfl) (by kernel_rfl) (by kernel_rfl) (fun _ _ _ h => h) (.inl ⟨by rfl, ?_⟩) (by assumption) ?_
                rotate_left 1
                · intro w0 hSw
                  go_simp <;> with_reducible rfl
                try simp only [Act.put, List.getElem_toArray, List.getElem_cons_zero, List.setIfInBounds_toArray, List.set_cons_zero, List.set_cons_succ]
                refine wpAnyH_take (i := 1) (v := ?_) rfl (by kernel_rfl) (by kernel_rfl) (by kernel_rfl) (fun _ _ _ h => h) (.inl ⟨by rfl, ?_⟩) (by assumption) ?_
                rotate_left 1
                · intro w0 hSw
                  go_simp <;> with_reducible rfl
                try simp only [Act.put, List.getElem_toArray, List.getElem_cons_zero, List.getElem_cons_succ, List.setIfInBounds_toArray, List.set_cons_zero, List.set_cons_succ]
                refine wpAnyH_take (i := 2) (v := ?_) rfl (by kernel_rfl) (by kernel_rfl) (by kernel_rfl) (fun _ _ _ h => h) (.inl ⟨by rfl, ?_⟩) (by assumption) ?_
                rotate_left 1
                · intro w0 hSw
                  go_simp <;> with_reducible rfl
                try simp only [Act.put, List.getElem_toArray, List.getElem_cons_zero, List.getElem_cons_succ, List.setIfInBounds_toArray, List.set_cons_zero, List.set_cons_succ]
                refine wpAnyH_take (i := 3) (v := ?_) rfl (by kernel_rfl) (by kernel_rfl) (by kernel_rfl) (fun _ _ _ h => h) (.inl ⟨by rfl, ?_⟩) (by assumption) ?_
                rotate_left 1
                · intro w0 hSw
                  obtain ⟨z0, z1, z2, z3⟩ := hSw
                  go_simp <;> with_reducible rfl
                try simp only [Act.put, List.getElem_toArray, List.getElem_cons_zero, List.getElem_cons_succ, List.setIfInBounds_toArray, List.set_cons_zero, List.set_cons_succ]
                refine wpAnyH_take (i := 4) (v := ?_) rfl (by kernel_rfl) (by kernel_rfl) (by kernel_rfl) (fun _ _ _ h => h) (.inl ⟨by rfl, ?_⟩) (by assumption) ?_
                rotate_left 1
                · intro w0 hSw
                  go_simp <;> with_reducible rfl
                try simp only [Act.put, List.getElem_toArray, List.getElem_cons_zero, List.getElem_cons_succ, List.setIfInBounds_toArray, List.set_cons_zero, List.set_cons_succ]
                refine wpAnyH_take (i := 5) (v := ?_) rfl (by kernel_rfl) (by kernel_rfl) (by kernel_rfl) (fun _ _ _ h => h) (.inl ⟨by rfl, ?_⟩) (by assumption) ?_
                rotate_left 1
                · intro w0 hSw
                  go_simp <;> with_reducible rfl
                try simp only [Act.put, List.getElem_toArray, List.getElem_cons_zero, List.getElem_cons_succ, List.setIfInBounds_toArray, List.set_cons_zero, List.set_cons_succ]
                refine wpAnyH_take (i := 6) (v := ?_) rfl (by kernel_rfl) (by kernel_rfl) (by kernel_rfl) (fun _ _ _ h => h) (.inl ⟨by rfl, ?_⟩) (by assumption) ?_
                rotate_left 1
                · intro w0 hSw
                  go_simp <;> with_reducible rfl
                try simp only [Act.put, List.getElem_toArray, List.getElem_cons_zero, List.getElem_cons_succ, List.setIfInBounds_toArray, List.set_cons_zero, List.set_cons_succ]
                refine wpAnyH_take (i := 7) (v := ?_) rfl (by kernel_rfl) (by kernel_rfl) (by kernel_rfl) (fun _ _ _ h => h) (.inl ⟨by rfl, ?_⟩) (by assumption) ?_
                rotate_left 1
                · intro w0 hSw
                  obtain ⟨z0, z1, z2, z3⟩ := hSw
                  go_simp <;> with_reducible rfl
                try simp only [Act.put, List.getElem_toArray, List.getElem_cons_zero, List.getElem_cons_succ, List.setIfInBounds_toArray, List.set_cons_zero, List.set_cons_succ]
                refine wpAnyH_take (i := 8) (v := ?_) rfl (by kernel_rfl) (by kernel_rfl) (by kernel_rfl) (fun _ _ _ h => h) (.inl ⟨by rfl, ?_⟩) (by assumption) ?_
                rotate_left 1
                · intro w0 hSw
                  go_simp <;> with_reducible rfl
                try simp only [Act.put, List.getElem_toArray, List.getElem_cons_zero, List.getElem_cons_succ, List.setIfInBounds_toArray, List.set_cons_zero, List.set_cons_succ]
                refine wpAnyH_take (i := 9) (v := ?_) rfl (by kernel_rfl) (by kernel_rfl) (by kernel_rfl) (fun _ _ _ h => h) (.inl ⟨by rfl, ?_⟩) (by assumption) ?_
                rotate_left 1
                · intro w0 hSw
                  go_simp <;> with_reducible rfl
                try simp only [Act.put, List.getElem_toArray, List.getElem_cons_zero, List.getElem_cons_succ, List.setIfInBounds_toArray, List.set_cons_zero, List.set_cons_succ]
                refine wpAnyH_take (i := 10) (v := undef) rfl (by kernel_rfl) (by kernel_rfl) (by kernel_rfl) (fun _ _ _ h => h) (.inr ⟨by rfl, rfl⟩) (by assumption) ?_
                try simp only [Act.put, List.getElem_toArray, List.getElem_cons_zero, List.getElem_cons_succ, List.setIfInBounds_toArray, List.set_cons_zero, List.set_cons_succ]
                refine wpAnyH_take (i := 11) (v := undef) rfl (by kernel_rfl) (by kernel_rfl) (by kernel_rfl) (fun _ _ _ h => h) (.inr ⟨by rfl, rfl⟩) (by assumption) ?_
                try simp only [Act.put, List.getElem_toArray, List.getElem_cons_zero, List.getElem_cons_succ, List.setIfInBounds_toArray, List.set_cons_zero, List.set_cons_succ]
                refine wpAnyH_take (i := 12) (v := undef) rfl (by kernel_rfl) (by kernel_rfl) (by kernel_rfl) (fun _ _ _ h => h) (.inr ⟨by rfl, rfl⟩) (by assumption) ?_
                try simp only [Act.put, List.getElem_toArray, List.getElem_cons_zero, List.getElem_cons_succ, List.setIfInBounds_toArray, List.set_cons_zero, List.set_cons_succ]
                refine wpAnyH_take (i := 13) (v := undef) rfl (by kernel_rfl) (by kernel_rfl) (by kernel_rfl) (fun _ _ _ h => h) (.inr ⟨by rfl, rfl⟩) (by assumption) ?_
                try simp only [Act.put, List.getElem_toArray, List.getElem_cons_zero, List.getElem_cons_succ, List.setIfInBounds_toArray, List.set_cons_zero, List.set_cons_succ]
                refine wpAnyH_take (i := 14) (v := undef) rfl (by kernel_rfl) (by kernel_rfl) (by kernel_rfl) (fun _ _ _ h => h) (.inr ⟨by rfl, rfl⟩) (by assumption) ?_
                try simp only [Act.put, List.getElem_toArray, List.getElem_cons_zero, List.getElem_cons_succ, List.setIfInBounds_toArray, List.set_cons_zero, List.set_cons_succ]
                refine wpAnyH_take (i := 15) (v := undef) rfl (by kernel_rfl) (by kernel_rfl) (by kernel_rfl) (fun _ _ _ h => h) (.inr ⟨by rfl, rfl⟩) (by assumption) ?_
                try simp only [Act.put, List.getElem_toArray, List.getElem_cons_zero, List.getElem_cons_succ, List.setIfInBounds_toArray, List.set_cons_zero, List.set_cons_succ]
                refine wpAnyH_take (i := 16) (v := undef) rfl (by kernel_rfl) (by kernel_rfl) (by kernel_rfl) (fun _ _ _ h => h) (.inr ⟨by rfl, rfl⟩) (by assumption) ?_
                try simp only [Act.put, List.getElem_toArray, List.getElem_cons_zero, List.getElem_cons_succ, List.setIfInBounds_toArray, List.set_cons_zero, List.set_cons_succ]
                refine wpAnyH_take (i := 17) (v := undef) rfl (by kernel_rfl) (by kernel_rfl) (by kernel_rfl) (fun _ _ _ h => h) (.inr ⟨by rfl, rfl⟩) (by assumption) ?_
                try simp only [Act.put, List.getElem_toArray, List.getElem_cons_zero, List.getElem_cons_succ, List.setIfInBounds_toArray, List.set_cons_zero, List.set_cons_succ]
                refine wpAnyH_take (i := 18) (v := undef) rfl (by kernel_rfl) (by kernel_rfl) (by kernel_rfl) (fun _ _ _ h => h) (.inr ⟨by rfl, rfl⟩) (by assumption) ?_
                try simp only [Act.put, List.getElem_toArray, List.getElem_cons_zero, List.getElem_cons_succ, List.setIfInBounds_toArray, List.set_cons_zero, List.set_cons_succ]
                refine wpAnyH_take (i := 19) (v := ?_) rfl (by kernel_rfl) (by kernel_rfl) (by kernel_rfl) (fun _ _ _ h => h) (.inl ⟨by rfl, ?_⟩) (by assumption) ?_
                rotate_left 1
                · intro w0 hSw
                  go_simp <;> with_reducible rfl
                try simp only [Act.put, List.getElem_toArray, List.getElem_cons_zero, List.getElem_cons_succ, List.setIfInBounds_toArray, List.set_cons_zero, List.set_cons_succ]
                refine wpAnyH_done (by kernel_rfl) ?_ 0
                go_wp2
                go_roundw
                case rel => exact ⟨m + 1, by omega, by go_num, (fun b hb => by rcases Nat.lt_succ_iff_lt_or_eq.1 hb with h | rfl; · exact HNM.out b h
                                                                               · exact HAT.out (fun h => h.1 rfl)), HBm.out.drew⟩
                case measure => simp [RowKit.intOf]; omega
              · have q1 := neq_texts hxy
                by_cases hss : sx = sy
                · subst hss
                  go_wp2_with fail
                  refine wp_region_held_drew (S := (fun W => W.cell? ⟨bk, o + i, none⟩ = some (.string x) ∧ W.cell? ⟨bk, o + m, none⟩ = some (.string y) ∧ W.cell? ⟨g, i, none⟩ = some (.string sx) ∧ W.cell? ⟨g, m, none⟩ = some (.string sx))) (by kernel_rfl) (HSW.out _ HBm.out.drew) (fun hHeld => ?_)
                  refine wpAnyH_take (i := 0) (v := ?_) rfl (by kernel_rfl) (by kernel_rfl) (by kernel_rfl) (fun _ _ _ h => h) (.inl ⟨by rfl, ?_⟩) (by assumption) ?_
                  rotate_left 1
                  · intro w0 hSw
                    go_simp <;> with_reducible rfl
                  try simp only [Act.put, List.getElem_toArray, List.getElem_cons_zero, List.setIfInBounds_toArray, List.set_cons_zero, List.set_cons_succ]
                  refine wpAnyH_take (i := 1) (v := ?_) rfl (by kernel_rfl) (by kernel_rfl) (by kernel_rfl) (fun _ _ _ h => h) (.inl ⟨by rfl, ?_⟩) (by assumption) ?_
                  rotate_left 1
                  · intro w0 hSw
                    go_simp <;> with_reducible rfl
                  try simp only [Act.put, List.getElem_toArray, List.getElem_cons_zero, List.getElem_cons_succ, List.setIfInBounds_toArray, List.set_cons_zero, List.set_cons_succ]
                  refine wpAnyH_take (i := 2) (v := ?_) rfl (by kernel_rfl) (by kernel_rfl) (by kernel_rfl) (fun _ _ _ h => h) (.inl ⟨by rfl, ?_⟩) (by assumption) ?_
                  rotate_left 1
                  · intro w0 hSw
                    go_simp <;> with_reducible rfl
                  try simp only [Act.put, List.getElem_toArray, List.getElem_cons_zero, List.getElem_cons_succ, List.setIfInBounds_toArray, List.set_cons_zero, List.set_cons_succ]
                  refine wpAnyH_take (i := 3) (v := ?_) rfl (by kernel_rfl) (by kernel_rfl) (by kernel_rfl) (fun _ _ _ h => h) (.inl ⟨by rfl, ?_⟩) (by assumption) ?_
                  rotate_left 1
                  · intro w0 hSw
                    obtain ⟨z0, z1, z2, z3⟩ := hSw
                    go_simp <;> with_reducible rfl
                  try simp only [Act.put, List.getElem_toArray, List.getElem_cons_zero, List.getElem_cons_succ, List.setIfInBounds_toArray, List.set_cons_zero, List.set_cons_succ]
                  refine wpAnyH_take (i := 4) (v := ?_) rfl (by kernel_rfl) (by kernel_rfl) (by kernel_rfl) (fun _ _ _ h => h) (.inl ⟨by rfl, ?_⟩) (by assumption) ?_
                  rotate_left 1
                  · intro w0 hSw
                    go_simp <;> with_reducible rfl
                  try simp only [Act.put, List.getElem_toArray, List.getElem_cons_zero, List.getElem_cons_succ, List.setIfInBounds_toArray, List.set_cons_zero, List.set_cons_succ]
                  refine wpAnyH_take (i := 5) (v := ?_) rfl (by kernel_rfl) (by kernel_rfl) (by kernel_rfl) (fun _ _ _ h => h) (.inl ⟨by rfl, ?_⟩) (by assumption) ?_
                  rotate_left 1
                  · intro w0 hSw
                    go_simp <;> with_reducible rfl
                  try simp only [Act.put, List.getElem_toArray, List.getElem_cons_zero, List.getElem_cons_succ, List.setIfInBounds_toArray, List.set_cons_zero, List.set_cons_succ]
                  refine wpAnyH_take (i := 6) (v := ?_) rfl (by kernel_rfl) (by kernel_rfl) (by kernel_rfl) (fun _ _ _ h => h) (.inl ⟨by rfl, ?_⟩) (by assumption) ?_
                  rotate_left 1
                  · intro w0 hSw
                    go_simp <;> with_reducible rfl
                  try simp only [Act.put, List.getElem_toArray, List.getElem_cons_zero, List.getElem_cons_succ, List.setIfInBounds_toArray, List.set_cons_zero, List.set_cons_succ]
                  refine wpAnyH_take (i := 7) (v := ?_) rfl (by kernel_rfl) (by kernel_rfl) (by kernel_rfl) (fun _ _ _ h => h) (.inl ⟨by rfl, ?_⟩) (by assumption) ?_
                  rotate_left 1
                  · intro w0 hSw
                    obtain ⟨z0, z1, z2, z3⟩ := hSw
                    go_simp <;> with_reducible rfl
                  try simp only [Act.put, List.getElem_toArray, List.getElem_cons_zero, List.getElem_cons_succ, List.setIfInBounds_toArray, List.set_cons_zero, List.set_cons_succ]
                  refine wpAnyH_take (i := 8) (v := ?_) rfl (by kernel_rfl) (by kernel_rfl) (by kernel_rfl) (fun _ _ _ h => h) (.inl ⟨by rfl, ?_⟩) (by assumption) ?_
                  rotate_left 1
                  · intro w0 hSw
                    go_simp <;> with_reducible rfl
                  try simp only [Act.put, List.getElem_toArray, List.getElem_cons_zero, List.getElem_cons_succ, List.setIfInBounds_toArray, List.set_cons_zero, List.set_cons_succ]
                  refine wpAnyH_take (i := 9) (v := ?_) rfl (by kernel_rfl) (by kernel_rfl) (by kernel_rfl) (fun _ _ _ h => h) (.inl ⟨by rfl, ?_⟩) (by assumption) ?_
                  rotate_left 1
                  · intro w0 hSw
                    go_simp <;> with_reducible rfl
                  try simp only [Act.put, List.getElem_toArray, List.getElem_cons_zero, List.getElem_cons_succ, List.setIfInBounds_toArray, List.set_cons_zero, List.set_cons_succ]
                  refine wpAnyH_take (i := 10) (v := ?_) rfl (by kernel_rfl) (by kernel_rfl) (by kernel_rfl) (fun _ _ _ h => h) (.inl ⟨by rfl, ?_⟩) (by assumption) ?_
                  rotate_left 1
                  · intro w0 hSw
                    go_simp <;> with_reducible rfl
                  try simp only [Act.put, List.getElem_toArray, List.getElem_cons_zero, List.getElem_cons_succ, List.setIfInBounds_toArray, List.set_cons_zero, List.set_cons_succ]
                  refine wpAnyH_take (i := 11) (v := ?_) rfl (by kernel_rfl) (by kernel_rfl) (by kernel_rfl) (fun _ _ _ h => h) (.inl ⟨by rfl, ?_⟩) (by assumption) ?_
                  rotate_left 1
                  · intro w0 hSw
                    go_simp <;> with_reducible rfl
                  try simp only [Act.put, List.getElem_toArray, List.getElem_cons_zero, List.getElem_cons_succ, List.setIfInBounds_toArray, List.set_cons_zero, List.set_cons_succ]
                  refine wpAnyH_take (i := 12) (v := ?_) rfl (by kernel_rfl) (by kernel_rfl) (by kernel_rfl) (fun _ _ _ h => h) (.inl ⟨by rfl, ?_⟩) (by assumption) ?_
                  rotate_left 1
                  · intro w0 hSw
                    go_simp <;> with_reducible rfl
                  try simp only [Act.put, List.getElem_toArray, List.getElem_cons_zero, List.getElem_cons_succ, List.setIfInBounds_toArray, List.set_cons_zero, List.set_cons_succ]
                  refine wpAnyH_take (i := 13) (v := ?_) rfl (by kernel_rfl) (by kernel_rfl) (by kernel_rfl) (fun _ _ _ h => h) (.inl ⟨by rfl, ?_⟩) (by assumption) ?_
                  rotate_left 1
                  · intro w0 hSw
                    obtain ⟨z0, z1, z2, z3⟩ := hSw
                    go_simp <;> with_reducible rfl
                  try simp only [Act.put, List.getElem_toArray, List.getElem_cons_zero, List.getElem_cons_succ, List.setIfInBounds_toArray, List.set_cons_zero, List.set_cons_succ]
                  refine wpAnyH_take (i := 14) (v := ?_) rfl (by kernel_rfl) (by kernel_rfl) (by kernel_rfl) (fun _ _ _ h => h) (.inl ⟨by rfl, ?_⟩) (by assumption) ?_
                  rotate_left 1
                  · intro w0 hSw
                    go_simp <;> with_reducible rfl
                  try simp only [Act.put, List.getElem_toArray, List.getElem_cons_zero, List.getElem_cons_succ, List.setIfInBounds_toArray, List.set_cons_zero, List.set_cons_succ]
                  refine wpAnyH_take (i := 15) (v := ?_) rfl (by kernel_rfl) (by kernel_rfl) (by kernel_rfl) (fun _ _ _ h => h) (.inl ⟨by rfl, ?_⟩) (by assumption) ?_
                  rotate_left 1
                  · intro w0 hSw
                    go_simp <;> with_reducible rfl
                  try simp only [Act.put, List.getElem_toArray, List.getElem_cons_zero, List.getElem_cons_succ, List.setIfInBounds_toArray, List.set_cons_zero, List.set_cons_succ]
                  refine wpAnyH_take (i := 16) (v := ?_) rfl (by kernel_rfl) (by kernel_rfl) (by kernel_rfl) (fun _ _ _ h => h) (.inl ⟨by rfl, ?_⟩) (by assumption) ?_
                  rotate_left 1
                  · intro w0 hSw
                    go_simp <;> with_reducible rfl
                  try simp only [Act.put, List.getElem_toArray, List.getElem_cons_zero, List.getElem_cons_succ, List.setIfInBounds_toArray, List.set_cons_zero, List.set_cons_succ]
                  refine wpAnyH_take (i := 17) (v := ?_) rfl (by kernel_rfl) (by kernel_rfl) (by kernel_rfl) (fun _ _ _ h => h) (.inl ⟨by rfl, ?_⟩) (by assumption) ?_
                  rotate_left 1
                  · intro w0 hSw
                    obtain ⟨z0, z1, z2, z3⟩ := hSw
                    go_simp <;> with_reducible rfl
                  try simp only [Act.put, List.getElem_toArray, List.getElem_cons_zero, List.getElem_cons_succ, List.setIfInBounds_toArray, List.set_cons_zero, List.set_cons_succ]
                  refine wpAnyH_take (i := 18) (v := ?_) rfl (by kernel_rfl) (by kernel_rfl) (by kernel_rfl) (fun _ _ _ h => h) (.inl ⟨by rfl, ?_⟩) (by assumption) ?_
                  rotate_left 1
                  · intro w0 hSw
                    go_simp <;> with_reducible rfl
                  try simp only [Act.put, List.getElem_toArray, List.getElem_cons_zero, List.getElem_cons_succ, List.setIfInBounds_toArray, List.set_cons_zero, List.set_cons_succ]
                  refine wpAnyH_take (i := 19) (v := ?_) rfl (by kernel_rfl) (by kernel_rfl) (by kernel_rfl) (fun _ _ _ h => h) (.inl ⟨by rfl, ?_⟩) (by assumption) ?_
                  rotate_left 1
                  · intro w0 hSw
                    go_simp <;> with_reducible rfl
                  try simp only [Act.put, List.getElem_toArray, List.getElem_cons_zero, List.getElem_cons_succ, List.setIfInBounds_toArray, List.set_cons_zero, List.set_cons_succ]
                  refine wpAnyH_done (by kernel_rfl) ?_ 0
                  go_wp2
                  go_ret
                  exact ⟨⟨true, rfl, fun _ => rfl⟩, HB.out.trans (HBm.out.drew.mono HB.out.size)⟩
                · have q2 := neq_texts hss
                  go_wp2_with fail
                  refine wp_region_held_drew (S := (fun W => W.cell? ⟨bk, o + i, none⟩ = some (.string x) ∧ W.cell? ⟨bk, o + m, none⟩ = some (.string y) ∧ W.cell? ⟨g, i, none⟩ = some (.string sx) ∧ W.cell? ⟨g, m, none⟩ = some (.string sy))) (by kernel_rfl) (HSW.out _ HBm.out.drew) (fun hHeld => ?_)
                  refine wpAnyH_take (i := 0) (v := ?_) rfl (by kernel_rfl) (by kernel_rfl) (by kernel_rfl) (fun _ _ _ h => h) (.inl ⟨by rfl, ?_⟩) (by assumption) ?_
                  rotate_left 1
                  · intro w0 hSw
                    go_simp <;> with_reducible rfl
                  try simp only [Act.put, List.getElem_toArray, List.getElem_cons_zero, List.setIfInBounds_toArray, List.set_cons_zero, List.set_cons_succ]
                  refine wpAnyH_take (i := 1) (v := ?_) rfl (by kernel_rfl) (by kernel_rfl) (by kernel_rfl) (fun _ _ _ h => h) (.inl ⟨by rfl, ?_⟩) (by assumption) ?_
                  rotate_left 1
                  · intro w0 hSw
                    go_simp <;> with_reducible rfl
                  try simp only [Act.put, List.getElem_toArray, List.getElem_cons_zero, List.getElem_cons_succ, List.setIfInBounds_toArray, List.set_cons_zero, List.set_cons_succ]
                  refine wpAnyH_take (i := 2) (v := ?_) rfl (by kernel_rfl) (by kernel_rfl) (by kernel_rfl) (fun _ _ _ h => h) (.inl ⟨by rfl, ?_⟩) (by assumption) ?_
                  rotate_left 1
                  · intro w0 hSw
                    go_simp <;> with_reducible rfl
                  try simp only [Act.put, List.getElem_toArray, List.getElem_cons_zero, List.getElem_cons_succ, List.setIfInBounds_toArray, List.set_cons_zero, List.set_cons_succ]
                  refine wpAnyH_take (i := 3) (v := ?_) rfl (by kernel_rfl) (by kernel_rfl) (by kernel_rfl) (fun _ _ _ h => h) (.inl ⟨by rfl, ?_⟩) (by assumption) ?_
                  rotate_left 1
                  · intro w0 hSw
                    obtain ⟨z0, z1, z2, z3⟩ := hSw
                    go_simp <;> with_reducible rfl
                  try simp only [Act.put, List.getElem_toArray, List.getElem_cons_zero, List.getElem_cons_succ, List.setIfInBounds_toArray, List.set_cons_zero, List.set_cons_succ]
                  refine wpAnyH_take (i := 4) (v := ?_) rfl (by kernel_rfl) (by kernel_rfl) (by kernel_rfl) (fun _ _ _ h => h) (.inl ⟨by rfl, ?_⟩) (by assumption) ?_
                  rotate_left 1
                  · intro w0 hSw
                    go_simp <;> with_reducible rfl
                  try simp only [Act.put, List.getElem_toArray, List.getElem_cons_zero, List.getElem_cons_succ, List.setIfInBounds_toArray, List.set_cons_zero, List.set_cons_succ]
                  refine wpAnyH_take (i := 5) (v := ?_) rfl (by kernel_rfl) (by kernel_rfl) (by kernel_rfl) (fun _ _ _ h => h) (.inl ⟨by rfl, ?_⟩) (by assumption) ?_
                  rotate_left 1
                  · intro w0 hSw
                    go_simp <;> with_reducible rfl
                  try simp only [Act.put, List.getElem_toArray, List.getElem_cons_zero, List.getElem_cons_succ, List.setIfInBounds_toArray, List.set_cons_zero, List.set_cons_succ]
                  refine wpAnyH_take (i := 6) (v := ?_) rfl (by kernel_rfl) (by kernel_rfl) (by kernel_rfl) (fun _ _ _ h => h) (.inl ⟨by rfl, ?_⟩) (by assumption) ?_
                  rotate_left 1
                  · intro w0 hSw
                    go_simp <;> with_reducible rfl
                  try simp only [Act.put, List.getElem_toArray, List.getElem_cons_zero, List.getElem_cons_succ, List.setIfInBounds_toArray, List.set_cons_zero, List.set_cons_succ]
                  refine wpAnyH_take (i := 7) (v := ?_) rfl (by kernel_rfl) (by kernel_rfl) (by kernel_rfl) (fun _ _ _ h => h) (.inl ⟨by rfl, ?_⟩) (by assumption) ?_
                  rotate_left 1
                  · intro w0 hSw
                    obtain ⟨z0, z1, z2, z3⟩ := hSw
                    go_simp <;> with_reducible rfl
                  try simp only [Act.put, List.getElem_toArray, List.getElem_cons_zero, List.getElem_cons_succ, List.setIfInBounds_toArray, List.set_cons_zero, List.set_cons_succ]
                  refine wpAnyH_take (i := 8) (v := ?_) rfl (by kernel_rfl) (by kernel_rfl) (by kernel_rfl) (fun _ _ _ h => h) (.inl ⟨by rfl, ?_⟩) (by assumption) ?_
                  rotate_left 1
                  · intro w0 hSw
                    go_simp <;> with_reducible rfl
                  try simp only [Act.put, List.getElem_toArray, List.getElem_cons_zero, List.getElem_cons_succ, List.setIfInBounds_toArray, List.set_cons_zero, List.set_cons_succ]
                  refine wpAnyH_take (i := 9) (v := ?_) rfl (by kernel_rfl) (by kernel_rfl) (by kernel_rfl) (fun _ _ _ h => h) (.inl ⟨by rfl, ?_⟩) (by assumption) ?_
                  rotate_left 1
                  · intro w0 hSw
                    go_simp <;> with_reducible rfl
                  try simp only [Act.put, List.getElem_toArray, List.getElem_cons_zero, List.getElem_cons_succ, List.setIfInBounds_toArray, List.set_cons_zero, List.set_cons_succ]
                  refine wpAnyH_take (i := 10) (v := ?_) rfl (by kernel_rfl) (by kernel_rfl) (by kernel_rfl) (fun _ _ _ h => h) (.inl ⟨by rfl, ?_⟩) (by assumption) ?_
                  rotate_left 1
                  · intro w0 hSw
                    go_simp <;> with_reducible rfl
                  try simp only [Act.put, List.getElem_toArray, List.getElem_cons_zero, List.getElem_cons_succ, List.setIfInBounds_toArray, List.set_cons_zero, List.set_cons_succ]
                  refine wpAnyH_take (i := 11) (v := ?_) rfl (by kernel_rfl) (by kernel_rfl) (by kernel_rfl) (fun _ _ _ h => h) (.inl ⟨by rfl, ?_⟩) (by assumption) ?_
                  rotate_left 1
                  · intro w0 hSw
                    go_simp <;> with_reducible rfl
                  try simp only [Act.put, List.getElem_toArray, List.getElem_cons_zero, List.getElem_cons_succ, List.setIfInBounds_toArray, List.set_cons_zero, List.set_cons_succ]
                  refine wpAnyH_take (i := 12) (v := ?_) rfl (by kernel_rfl) (by kernel_rfl) (by kernel_rfl) (fun _ _ _ h => h) (.inl ⟨by rfl, ?_⟩) (by assumption) ?_
                  rotate_left 1
                  · intro w0 hSw
                    go_simp <;> with_reducible rfl
                  try simp only [Act.put, List.getElem_toArray, List.getElem_cons_zero, List.getElem_cons_succ, List.setIfInBounds_toArray, List.set_cons_zero, List.set_cons_succ]
                  refine wpAnyH_take (i := 13) (v := ?_) rfl (by kernel_rfl) (by kernel_rfl) (by kernel_rfl) (fun _ _ _ h => h) (.inl ⟨by rfl, ?_⟩) (by assumption) ?_
                  rotate_left 1
                  · intro w0 hSw
                    obtain ⟨z0, z1, z2, z3⟩ := hSw
                    go_simp <;> with_reducible rfl
                  try simp only [Act.put, List.getElem_toArray, List.getElem_cons_zero, List.getElem_cons_succ, List.setIfInBounds_toArray, List.set_cons_zero, List.set_cons_succ]
                  refine wpAnyH_take (i := 14) (v := ?_) rfl (by kernel_rfl) (by kernel_rfl) (by kernel_rfl) (fun _ _ _ h => h) (.inl ⟨by rfl, ?_⟩) (by assumption) ?_
                  rotate_left 1
                  · intro w0 hSw
                    go_simp <;> with_reducible rfl
                  try simp only [Act.put, List.getElem_toArray, List.getElem_cons_zero, List.getElem_cons_succ, List.setIfInBounds_toArray, List.set_cons_zero, List.set_cons_succ]
                  refine wpAnyH_take (i := 15) (v := ?_) rfl (by kernel_rfl) (by kernel_rfl) (by kernel_rfl) (fun _ _ _ h => h) (.inl ⟨by rfl, ?_⟩) (by assumption) ?_
                  rotate_left 1
                  · intro w0 hSw
                    go_simp <;> with_reducible rfl
                  try simp only [Act.put, List.getElem_toArray, List.getElem_cons_zero, List.getElem_cons_succ, List.setIfInBounds_toArray, List.set_cons_zero, List.set_cons_succ]
                  refine wpAnyH_take (i := 16) (v := ?_) rfl (by kernel_rfl) (by kernel_rfl) (by kernel_rfl) (fun _ _ _ h => h) (.inl ⟨by rfl, ?_⟩) (by assumption) ?_
                  rotate_left 1
                  · intro w0 hSw
                    go_simp <;> with_reducible rfl
                  try simp only [Act.put, List.getElem_toArray, List.getElem_cons_zero, List.getElem_cons_succ, List.setIfInBounds_toArray, List.set_cons_zero, List.set_cons_succ]
                  refine wpAnyH_take (i := 17) (v := ?_) rfl (by kernel_rfl) (by kernel_rfl) (by kernel_rfl) (fun _ _ _ h => h) (.inl ⟨by rfl, ?_⟩) (by assumption) ?_
                  rotate_left 1
                  · intro w0 hSw
                    obtain ⟨z0, z1, z2, z3⟩ := hSw
                    go_simp <;> with_reducible rfl
                  try simp only [Act.put, List.getElem_toArray, List.getElem_cons_zero, List.getElem_cons_succ, List.setIfInBounds_toArray, List.set_cons_zero, List.set_cons_succ]
                  refine wpAnyH_take (i := 18) (v := ?_) rfl (by kernel_rfl) (by kernel_rfl) (by kernel_rfl) (fun _ _ _ h => h) (.inl ⟨by rfl, ?_⟩) (by assumption) ?_
                  rotate_left 1
                  · intro w0 hSw
                    go_simp <;> with_reducible rfl
                  try simp only [Act.put, List.getElem_toArray, List.getElem_cons_zero, List.getElem_cons_succ, List.setIfInBounds_toArray, List.set_cons_zero, List.set_cons_succ]
                  refine wpAnyH_take (i := 19) (v := ?_) rfl (by kernel_rfl) (by kernel_rfl) (by kernel_rfl) (fun _ _ _ h => h) (.inl ⟨by rfl, ?_⟩) (by assumption) ?_
                  rotate_left 1
                  · intro w0 hSw
                    go_simp <;> with_reducible rfl
                  try simp only [Act.put, List.getElem_toArray, List.getElem_cons_zero, List.getElem_cons_succ, List.setIfInBounds_toArray, List.set_cons_zero, List.set_cons_succ]
                  refine wpAnyH_done (by kernel_rfl) ?_ 0
                  go_wp2
                  go_roundw
                  case rel => exact ⟨m + 1, by omega, by go_num, (fun b hb => by rcases Nat.lt_succ_iff_lt_or_eq.1 hb with h | rfl; · exact HNM.out b h
                                                                                 · exact HAT.out (fun h => hss h.2)), HBm.out.drew⟩
                  case measure => simp [RowKit.intOf]; omega
            · obtain rfl : m = i := by omega
              go_wp2
              go_roundw
              case rel => exact ⟨m + 1, by omega, by go_num, (fun a b hba ha => by rcases Nat.lt_succ_iff_lt_or_eq.1 ha with h | rfl; · exact HNC.out a b hba h
                                                                                   · exact HNM.out b hba), HBm.out⟩
              case measure => simp [RowKit.intOf]; omega
        · obtain rfl : i = k := by omega
          go_wp2
          go_ret
          refine ⟨⟨false, rfl, fun h => ?_⟩, HB.out.trans (HBi.out.mono HB.out.size)⟩
          obtain ⟨a, b, s, t, h1, h2, h3, h4, h5⟩ := h.places
          exact absurd ⟨s, t, h2, h3, h4, h5⟩ (HNC.out a b h1 (by have := (List.getElem?_eq_some_iff.1 h2).1; rw [HN.out] at this; exact this))
end Go.Proofs.YthicdhnjincflaaDoor
/- proof.Check gives what checkP says, of any root, key and texts. -/
namespace Go.Proofs.YthicdhnjincflaaDoor
open Go.RowKit Go.Shelf Go.Lib
attribute [local go_sem] Oper.semAt_some
end Go.Proofs.YthicdhnjincflaaDoor
