/- Plain: what readers make of items. -/
import Derived.Test.YtpfmdhcmhcoddaaGreatDoorPlain
import Derived.Test.YtpfmdhcmhcoddaaGreatDoorDecB
import Derived.Test.YtpfmdhcmhcoddaaGreatDoorItI
namespace Go.Proofs.YtpfmdhcmhcoddaaGreatDoor
open Go.RowKit

/-- is an item no list of so many (below 0: of any number)? -/
def opnB (x : Item) (m : Int) : Bool := !x.isList || (decide (0 ≤ m) && decide ((x.list.length : Int) ≠ m))
/-- what is read then -/
def opnL (x : Item) (m : Int) : List Item := bif opnB x m then List.replicate m.toNat Item.none else x.list
/-- is an item no number? -/
def numB (x : Item) : Bool := x.isList || decide ((value x.text).2 ≠ 0)
def numV (x : Item) : Nat := (value x.text).1
def txtB (x : Item) : ByteArray := ⟨x.text.toArray⟩
/-- texts, as far as they are -/
def txsL : List Item → List ByteArray
  | [] => []
  | x :: r => if x.isList then [] else txtB x :: txsL r
def txsB (l : List Item) : Bool := l.any Item.isList
def tsL (x : Item) : List ByteArray := txsL (opnL x (-1))
def tsB (x : Item) : Bool := opnB x (-1) || txsB (opnL x (-1))
theorem opnL_length (x : Item) (m : Nat) : (opnL x m).length = m := by
  unfold opnL
  cases h : opnB x m with
  | true => simp
  | false =>
    unfold opnB at h
    simp only [cond_false]
    have : decide ((0 : Int) ≤ (m : Int)) = true := by simp
    rw [this] at h
    simp at h
    omega
theorem opnL_bad {x : Item} {m : Int} (h : opnB x m = true) : opnL x m = List.replicate m.toNat Item.none := by unfold opnL; rw [h]; rfl
theorem opnL_good {x : Item} {m : Int} (h : opnB x m = false) : opnL x m = x.list := by unfold opnL; rw [h]; rfl
theorem opn2 (x : Item) : ∃ a b, opnL x 2 = [a, b] := by
  have h := opnL_length x 2
  match opnL x ((2 : Nat) : Int), h with
  | [a, b], _ => exact ⟨a, b, rfl⟩
theorem opn3 (x : Item) : ∃ a b c, opnL x 3 = [a, b, c] := by
  have h := opnL_length x 3
  match opnL x ((3 : Nat) : Int), h with
  | [a, b, c], _ => exact ⟨a, b, c, rfl⟩
theorem opn5 (x : Item) : ∃ a b c d e, opnL x 5 = [a, b, c, d, e] := by
  have h := opnL_length x 5
  match opnL x ((5 : Nat) : Int), h with
  | [a, b, c, d, e], _ => exact ⟨a, b, c, d, e, rfl⟩
theorem opn8 (x : Item) : ∃ a b c d e f g h, opnL x 8 = [a, b, c, d, e, f, g, h] := by
  have h := opnL_length x 8
  match opnL x ((8 : Nat) : Int), h with
  | [a, b, c, d, e, f, g, k], _ => exact ⟨a, b, c, d, e, f, g, k, rfl⟩
/-- the items of a Light: the header's, what the block did, the branch -/
def li (x : Item) (i : Nat) : Item := (opnL x 3).getD i Item.none
def lh (x : Item) (i : Nat) : Item := (opnL (li x 0) 5).getD i Item.none
def ly (x : Item) (i : Nat) : Item := (opnL (li x 1) 3).getD i Item.none
/-- what is bad ahead of the branch -/
def lightB0 (x : Item) : Bool := opnB x 3 || numB (lh x 0) || numB (lh x 1) || (lh x 2).isList || (lh x 3).isList || (lh x 4).isList || (ly x 0).isList || (ly x 1).isList || numB (ly x 2)
def lightB (x : Item) : Bool := lightB0 x || (opnB (li x 0) 5 || opnB (li x 1) 3 || tsB (li x 2))
/-- a Light's cells -/
def lightC (x : Item) (V : Value) : List Value := [.int .u64 (numV (lh x 0)), .int .u64 (numV (lh x 1)), .string (txtB (lh x 2)), .string (txtB (lh x 3)), .string (txtB (lh x 4)), .string (txtB (ly x 0)), .string (txtB (ly x 1)), .int .u64 (numV (ly x 2)), V]
def lightZ : List Value := [.int .u64 0, .int .u64 0, .string ⟨#[]⟩, .string ⟨#[]⟩, .string ⟨#[]⟩, .string ⟨#[]⟩, .string ⟨#[]⟩, .int .u64 0, .slice none 0 0]
def ci (x : Item) (i : Nat) : Item := (opnL x 2).getD i Item.none
def commB (x : Item) : Bool := opnB x 2 || (ci x 1).isList || tsB (ci x 0)
def commC (x : Item) (V : Value) : List Value := [V, .string (txtB (ci x 1))]
def commZ : List Value := [.slice none 0 0, .string ⟨#[]⟩]
end Go.Proofs.YtpfmdhcmhcoddaaGreatDoor
/- Readers of items in memory: what one holds, and what stays while readers change. -/
namespace Go.Proofs.YtpfmdhcmhcoddaaGreatDoor
open Go.RowKit Go.Shelf Go.Lib

/-- a reader's block -/
def rdObj (v : Value) (b : Bool) : Obj := .cells #[v, .bool b] 147 (0, 0)
def IsRd (w : World) (k : Nat) : Prop := ∃ p n c b, w.heap[k]? = some (rdObj (.slice p n c) b)
/-- a block where items may lie: below n, or laid as such -/
def ItB (n : Nat) (w : World) (g : Nat) : Prop := g < w.heap.size ∧ (g < n ∨ ∃ cs, w.heap[g]? = some (.cells cs 118 (0, 0)))
/-- items in memory -/
def RdI (n : Nat) (w : World) (v : Value) (l : List Item) : Prop := ReadsIn w (ItB n w) v l
/-- a reader in memory: what is left of it, and whether it is bad -/
def RdAt (n : Nat) (w : World) (g : Nat) (l : List Item) (b : Bool) : Prop := n ≤ g ∧ ∃ p c, w.heap[g]? = some (rdObj (.slice p l.length c) b) ∧ RdI n w (.slice p l.length c) l
/-- all stays but readers of S -/
structure Ext (n : Nat) (S : List Nat) (w w' : World) : Prop where
  os : w'.os = w.os
  tape : w'.tape = w.tape
  output : w'.output = w.output
  size : w.heap.size ≤ w'.heap.size
  block : ∀ k, k < w.heap.size → (k < n ∨ k ∉ S ∨ ¬ IsRd w k) → w'.heap[k]? = w.heap[k]?
theorem Ext.refl (n : Nat) (S : List Nat) (w : World) : Ext n S w w := ⟨rfl, rfl, rfl, Nat.le_refl _, fun _ _ _ => rfl⟩
theorem IsRd.of {w w' : World} {k : Nat} (h : w'.heap[k]? = w.heap[k]?) : IsRd w' k → IsRd w k := fun ⟨p, n, c, b, e⟩ => ⟨p, n, c, b, h ▸ e⟩
theorem Ext.trans {n : Nat} {S : List Nat} {a b c : World} (h : Ext n S a b) (k : Ext n S b c) : Ext n S a c :=
  ⟨k.os.trans h.os, k.tape.trans h.tape, k.output.trans h.output, Nat.le_trans h.size k.size, fun i hi hc => by
    have h1 := h.block i hi hc
    exact (k.block i (Nat.lt_of_lt_of_le hi h.size) (hc.imp id (Or.imp id (fun hn hr => hn (IsRd.of h1 hr))))).trans h1⟩
theorem Ext.mono {n : Nat} {S S' : List Nat} {a b : World} (h : Ext n S a b) (hS : ∀ k, k ∈ S → k ∈ S') : Ext n S' a b :=
  ⟨h.os, h.tape, h.output, h.size, fun k hk hc => h.block k hk (hc.imp id (Or.imp (fun hn hm => hn (hS k hm)) id))⟩
/-- readers that are newer are no concern -/
theorem Ext.drop {n : Nat} {S S' : List Nat} {a b : World} (h : Ext n S a b) (hS : ∀ k, k ∈ S → k < a.heap.size → k ∈ S') : Ext n S' a b :=
  ⟨h.os, h.tape, h.output, h.size, fun k hk hc => h.block k hk (hc.imp id (Or.imp (fun hn hm => hn (hS k hm hk)) id))⟩
theorem Ext.of_below {n : Nat} {S : List Nat} {a b : World} (h : Below a.heap.size a b) : Ext n S a b :=
  ⟨h.os, h.tape, h.output, h.size, fun k hk _ => h.block k hk⟩
theorem Ext.below {n : Nat} {S : List Nat} {a b : World} (h : Ext n S a b) {m : Nat} (hm : m ≤ a.heap.size) (hS : ∀ k, k ∈ S → m ≤ k) : Below m a b :=
  ⟨h.os, h.tape, h.output, h.size, fun k hk => h.block k (by omega) (.inr (.inl (fun hk2 => by have := hS k hk2; omega)))⟩
/-- the same for blocks of cells alone -/
structure ExtC (n : Nat) (S : List Nat) (w w' : World) : Prop where
  size : w.heap.size ≤ w'.heap.size
  block : ∀ k o, w.heap[k]? = some o → o.isCells = true → (k < n ∨ k ∉ S ∨ ¬ IsRd w k) → w'.heap[k]? = some o
theorem Ext.c {n : Nat} {S : List Nat} {a b : World} (h : Ext n S a b) : ExtC n S a b :=
  ⟨h.size, fun k _ hk _ hc => (h.block k (Array.getElem?_eq_some_iff.1 hk).1 hc).trans hk⟩
theorem ExtC.trans {n : Nat} {S : List Nat} {a b c : World} (h : ExtC n S a b) (k : ExtC n S b c) : ExtC n S a c :=
  ⟨Nat.le_trans h.size k.size, fun i o hi ho hc => by
    have h1 := h.block i o hi ho hc
    exact k.block i o h1 ho (hc.imp id (Or.imp id (fun hn hr => hn (IsRd.of (h1.trans hi.symm) hr))))⟩
theorem ExtC.mono {n : Nat} {S S' : List Nat} {a b : World} (h : ExtC n S a b) (hS : ∀ k, k ∈ S → k ∈ S') : ExtC n S' a b :=
  ⟨h.size, fun k o hk ho hc => h.block k o hk ho (hc.imp id (Or.imp (fun hn hm => hn (hS k hm)) id))⟩
/-- only an object that holds no cells turns -/
theorem ExtC.grown {n : Nat} {S : List Nat} {a b : World} {row : Option Nat} (hg : a.grownBy b row) (hr : ∀ r, row = some r → ∃ o : Obj, a.heap[r]? = some o ∧ o.isCells = false) : ExtC n S a b :=
  ⟨hg.size, fun k o hk ho _ => (hg.block k (Array.getElem?_eq_some_iff.1 hk).1 (fun e => by
    obtain ⟨o', ho', hc⟩ := hr k e.symm
    rw [hk] at ho'; cases ho'; rw [ho] at hc; cases hc)).trans hk⟩
theorem rd_ne {w : World} {g : Nat} {cs : Array Value} {k : Nat × Nat} (h : w.heap[g]? = some (.cells cs 118 k)) : ¬ IsRd w g := fun ⟨p, n, c, b, e⟩ => by
  rw [h] at e
  simp [rdObj] at e
theorem ItB.keep {n : Nat} {S : List Nat} {a b : World} (h : ExtC n S a b) {g : Nat} (hg : ItB n a g) {o : Obj} (ho : a.heap[g]? = some o) (hc : o.isCells = true) : b.heap[g]? = some o := by
  obtain ⟨h1, h2⟩ := hg
  rcases h2 with h2 | ⟨cs, h2⟩
  · exact h.block g o ho hc (.inl h2)
  · exact h.block g o ho hc (.inr (.inr (rd_ne h2)))
theorem ItB.ext {n : Nat} {S : List Nat} {a b : World} (h : ExtC n S a b) {g : Nat} (hg : ItB n a g) : ItB n b g :=
  ⟨Nat.lt_of_lt_of_le hg.1 h.size, hg.2.imp id (fun ⟨cs, e⟩ => ⟨cs, hg.keep h e rfl⟩)⟩
theorem cells_of {w : World} {a : Addr} {u : Value} (h : w.cell? a = some u) : ∃ o : Obj, w.heap[a.block]? = some o ∧ o.isCells = true := by
  unfold World.cell? at h
  split at h
  · rename_i o hb
    exact ⟨_, hb, rfl⟩
  · cases h
theorem RdI.ext {n : Nat} {S : List Nat} {a b : World} (h : ExtC n S a b) {v : Value} {l : List Item} (hr : RdI n a v l) : RdI n b v l :=
  ReadsIn.kept hr (fun g _ o hg hc => by
    obtain ⟨ob, h1, h2⟩ := cells_of hc
    exact (World.cell?_of_block (a := ⟨g, o, none⟩) ((hg.keep h h1 h2).trans h1.symm)).trans hc) (fun _ hg => hg.ext h)
theorem RdAt.lt {n : Nat} {w : World} {g : Nat} {l : List Item} {b : Bool} (h : RdAt n w g l b) : g < w.heap.size := by
  obtain ⟨_, p, c, h, _⟩ := h
  exact (Array.getElem?_eq_some_iff.1 h).1
theorem RdAt.ge {n : Nat} {w : World} {g : Nat} {l : List Item} {b : Bool} (h : RdAt n w g l b) : n ≤ g := h.1
theorem RdAt.ext {n : Nat} {S : List Nat} {a w : World} (h : ExtC n S a w) {g : Nat} {l : List Item} {b : Bool} (hr : RdAt n a g l b) (hg : g ∉ S) : RdAt n w g l b := by
  obtain ⟨hn, p, c, h1, h2⟩ := hr
  exact ⟨hn, p, c, h.block g _ h1 rfl (.inr (.inl hg)), h2.ext h⟩
theorem RdAt.isRd {n : Nat} {w : World} {g : Nat} {l : List Item} {b : Bool} (h : RdAt n w g l b) : IsRd w g := by
  obtain ⟨_, p, c, h, _⟩ := h
  exact ⟨p, _, c, b, h⟩
theorem rd_cell0 {w : World} {g : Nat} {v : Value} {b : Bool} (h : w.heap[g]? = some (rdObj v b)) : w.cell? ⟨g, 0, none⟩ = some v := by
  rw [World.cell?, h]; rfl
theorem rd_cell1 {w : World} {g : Nat} {v : Value} {b : Bool} (h : w.heap[g]? = some (rdObj v b)) : w.cell? ⟨g, 1, none⟩ = some (.bool b) := by
  rw [World.cell?, h]; rfl
theorem rd_frozen {w : World} {g : Nat} {v : Value} {b : Bool} (h : w.heap[g]? = some (rdObj v b)) (i : Nat) : w.frozen? ⟨g, i, none⟩ = false := by
  rw [World.frozen?, h]; simp [rdObj]
theorem rd_set0 {w : World} {g : Nat} {v : Value} {b : Bool} (h : w.heap[g]? = some (rdObj v b)) (u : Value) : (w.setCell ⟨g, 0, none⟩ u).heap[g]? = some (rdObj u b) := by
  show (w.heap.modify g _)[g]? = _
  rw [Array.getElem?_modify, if_pos rfl, h]
  rfl
theorem rd_set1 {w : World} {g : Nat} {v : Value} {b : Bool} (h : w.heap[g]? = some (rdObj v b)) (c : Bool) : (w.setCell ⟨g, 1, none⟩ (.bool c)).heap[g]? = some (rdObj v c) := by
  show (w.heap.modify g _)[g]? = _
  rw [Array.getElem?_modify, if_pos rfl, h]
  rfl
theorem Ext.set {n : Nat} {w : World} {g : Nat} (hg : IsRd w g) (hn : n ≤ g) (j : Nat) (u : Value) : Ext n [g] w (w.setCell ⟨g, j, none⟩ u) := by
  refine ⟨rfl, rfl, rfl, by simp, fun k hk hc => heap_set2 (fun e => ?_)⟩
  subst e
  rcases hc with hc | hc | hc
  · omega
  · exact hc (by simp)
  · exact hc hg
/-- a row of texts -/
theorem Strs.ext {n : Nat} {S : List Nat} {a b : World} (h : ExtC n S a b) {v : Value} {l : List ByteArray} (hs : Strs a v l) : Strs b v l := by
  obtain ⟨p, c, hv, hc, hs⟩ := hs
  refine ⟨p, c, hv, hc, ?_⟩
  rcases hs with hs | ⟨bk, o, hp, hk, hs⟩
  · exact .inl hs
  · cases l with
    | nil => exact .inl rfl
    | cons x r =>
      have h0 := hs 0 x rfl
      obtain ⟨ob, h1, h2⟩ := cells_of h0
      have hb : b.heap[bk]? = some ob := h.block bk ob h1 h2 (.inr (.inr (fun ⟨p, n, c, t, e⟩ => by
        rw [World.cell?, e] at h0
        match o, h0 with
        | 0, h0 => cases h0
        | 1, h0 => cases h0
        | _ + 2, h0 => simp [rdObj] at h0)))
      exact .inr ⟨bk, o, hp, Nat.lt_of_lt_of_le hk h.size, fun j y hy => (World.cell?_of_block (a := ⟨bk, o + j, none⟩) (hb.trans h1.symm)).trans (hs j y hy)⟩
/-- what comes behind a call -/
theorem Ext.alloc {n : Nat} {S : List Nat} {a b : World} (h : Ext n S a b) (o : Obj) : Ext n S a (b.alloc o) := h.trans (Ext.of_below ((Below.refl _ _).alloc (Nat.le_refl _) _))
theorem Ext.then {n : Nat} {S : List Nat} {a b c : World} (h : Ext n S a b) (k : Below b.heap.size b c) : Ext n S a c := h.trans (Ext.of_below k)
/-- a store in a block that is new, or in a reader -/
theorem Ext.setNew {n : Nat} {S : List Nat} {a b : World} (h : Ext n S a b) {g : Nat} (hg : a.heap.size ≤ g) (j : Nat) (u : Value) : Ext n S a (b.setCell ⟨g, j, none⟩ u) :=
  ⟨h.os, h.tape, h.output, by rw [World.size_setCell]; exact h.size, fun k hk hc => (heap_set2 (by omega)).trans (h.block k hk hc)⟩
end Go.Proofs.YtpfmdhcmhcoddaaGreatDoor

/- Contracts of a reader's item and open. -/
namespace Go.Proofs.YtpfmdhcmhcoddaaGreatDoor
open Go.RowKit Go.Shelf Go.Lib
attribute [local go_sem] Oper.semAt_some

theorem RdI.empty (n : Nat) (w : World) (p : Option Addr) (c : Nat) : RdI n w (.slice p 0 c) [] := ⟨1, p, c, rfl, Nat.zero_le _, .inl rfl⟩
/-- the first one's cells, and the others -/
theorem RdI.head {n : Nat} {w : World} {p : Option Addr} {c : Nat} {x : Item} {l : List Item} (h : RdI n w (.slice p (x :: l).length c) (x :: l)) :
    ∃ g o px cx, p = some ⟨g, o, none⟩ ∧ g < w.heap.size ∧ w.cell? ⟨g, o, none⟩ = some (.bool x.isList) ∧ w.cell? ⟨g, o + 1, none⟩ = some (.string ⟨x.text.toArray⟩) ∧ w.cell? ⟨g, o + 2, none⟩ = some (.slice px x.list.length cx) ∧
      RdI n w (.slice px x.list.length cx) x.list ∧ (c = 1 ∧ l = [] ∨ c ≠ 1 ∧ RdI n w (.slice (some ⟨g, o + 3, none⟩) l.length (c - 1)) l) := by
  have hcap : (x :: l).length ≤ c := ReadsIn.cap h
  obtain ⟨_, g, o, hp, hg, hat⟩ := ReadsIn.at h (by simp)
  obtain ⟨h0, h1, v, h2, h3⟩ := hat 0 x rfl
  obtain ⟨px, cx, rfl⟩ := ReadsIn.form h3
  simp only [Nat.zero_mul, Nat.add_zero] at h0 h1 h2
  refine ⟨g, o, px, cx, hp, hg.1, h0, h1, h2, h3, ?_⟩
  by_cases hc : c = 1
  · left
    refine ⟨hc, ?_⟩
    subst hc
    simpa using hcap
  · right
    refine ⟨hc, ReadsIn.mk hg (fun i y hy => ?_) (by simp at hcap; omega)⟩
    obtain ⟨q0, q1, v', q2, q3⟩ := hat (i + 1) y (by simpa using hy)
    rw [show o + (i + 1) * 3 = o + 3 + i * 3 from by omega] at q0 q1 q2
    exact ⟨q0, q1, v', q2, q3⟩
set_option maxRecDepth 100000 in
set_option maxHeartbeats 3200000 in
theorem rdItem_one {n : Nat} {w : World} {g : Nat} {bl : Bool} {tx : ByteArray} {b : Bool} {gx o : Nat} {px : Option Addr} {cx k : Nat} (hn : n ≤ g) (hgx : gx < w.heap.size) (hg : w.heap[g]? = some (rdObj (.slice (some ⟨gx, o, none⟩) 1 1) b))
    (h0 : w.cell? ⟨gx, o, none⟩ = some (.bool bl)) (h1 : w.cell? ⟨gx, o + 1, none⟩ = some (.string tx)) (h2 : w.cell? ⟨gx, o + 2, none⟩ = some (.slice px k cx)) :
    Calls Tryz.prog 112 #[.pointer (some ⟨g, 0, none⟩)] w fun e w' => e = .returned (.agg #[.bool bl, .string tx, .slice px k cx]) ∧ w'.heap[g]? = some (rdObj (.slice (some ⟨gx, o, none⟩) 0 0) b) ∧ Ext n [g] w w' := by
  have hlt : g < w.heap.size := (Array.getElem?_eq_some_iff.1 hg).1
  have c0 := rd_cell0 hg
  have f0 := rd_frozen hg 0
  have HG := Lib.hid hg
  have HN := Lib.hid hn
  clear hg hn
  go_enter Tryz.func112, Tryz.ntmps112
  go_wp2_with fail
  refine bodyPost_ret (results_item0 rfl _ _ w.heap.size (.bool bl) (.string tx) (.slice px k cx) rfl ?_ ?_ ?_) rfl ?_
  · simp [go_sem]
  · simp [go_sem]
  · simp [go_sem]
  exact ⟨rfl, (Below.heap_alloc _ _ _ (by simp; omega)).trans ((Below.heap_alloc _ _ _ (by simp; omega)).trans (rd_set0 HG.out _)), ((Ext.set ⟨_, _, _, _, HG.out⟩ HN.out 0 _).alloc _).alloc _⟩
set_option maxRecDepth 100000 in
set_option maxHeartbeats 3200000 in
theorem rdItem_more {n : Nat} {w : World} {g : Nat} {bl : Bool} {tx : ByteArray} {b : Bool} {gx o : Nat} {px : Option Addr} {cx k m c : Nat} (hn : n ≤ g) (hgx : gx < w.heap.size) (hc : ¬ c = 1) (hg : w.heap[g]? = some (rdObj (.slice (some ⟨gx, o, none⟩) (m + 1) c) b))
    (h0 : w.cell? ⟨gx, o, none⟩ = some (.bool bl)) (h1 : w.cell? ⟨gx, o + 1, none⟩ = some (.string tx)) (h2 : w.cell? ⟨gx, o + 2, none⟩ = some (.slice px k cx)) :
    Calls Tryz.prog 112 #[.pointer (some ⟨g, 0, none⟩)] w fun e w' => e = .returned (.agg #[.bool bl, .string tx, .slice px k cx]) ∧ w'.heap[g]? = some (rdObj (.slice (some ⟨gx, o + 3, none⟩) m (c - 1)) b) ∧ Ext n [g] w w' := by
  have hlt : g < w.heap.size := (Array.getElem?_eq_some_iff.1 hg).1
  have c0 := rd_cell0 hg
  have f0 := rd_frozen hg 0
  have HG := Lib.hid hg
  have HN := Lib.hid hn
  clear hg hn
  go_enter Tryz.func112, Tryz.ntmps112
  go_wp2_with fail
  refine bodyPost_ret (results_item0 rfl _ _ w.heap.size (.bool bl) (.string tx) (.slice px k cx) rfl ?_ ?_ ?_) rfl ?_
  · simp [go_sem]
  · simp [go_sem]
  · simp [go_sem]
  exact ⟨rfl, (Below.heap_alloc _ _ _ (by simp; omega)).trans ((Below.heap_alloc _ _ _ (by simp; omega)).trans (rd_set0 HG.out _)), ((Ext.set ⟨_, _, _, _, HG.out⟩ HN.out 0 _).alloc _).alloc _⟩
/-- the next item of a reader -/
theorem rdItem_any {n : Nat} {w : World} {g : Nat} {x : Item} {l : List Item} {b : Bool} (h : RdAt n w g (x :: l) b) :
    Calls Tryz.prog 112 #[.pointer (some ⟨g, 0, none⟩)] w fun e w' => (∃ p c, e = .returned (.agg #[.bool x.isList, .string (txtB x), .slice p x.list.length c]) ∧ RdI n w' (.slice p x.list.length c) x.list) ∧ RdAt n w' g l b ∧ Ext n [g] w w' := by
  obtain ⟨hn, p, c, hg, hr⟩ := h
  obtain ⟨gx, o, px, cx, rfl, hgx, h0, h1, h2, hx, hc⟩ := hr.head
  rcases hc with ⟨rfl, rfl⟩ | ⟨hc, hl⟩
  · refine (rdItem_one (n := n) hn hgx hg h0 h1 h2).mono ?_
    rintro e w' ⟨rfl, h3, h4⟩
    exact ⟨⟨_, _, rfl, hx.ext h4.c⟩, ⟨hn, _, _, h3, RdI.empty _ _ _ _⟩, h4⟩
  · refine (rdItem_more (n := n) hn hgx hc hg h0 h1 h2).mono ?_
    rintro e w' ⟨rfl, h3, h4⟩
    exact ⟨⟨_, _, rfl, hx.ext h4.c⟩, ⟨hn, _, _, h3, hl.ext h4.c⟩, h4⟩
theorem infoItemR : (Tryz.prog.info? 118).map (fun i => (i.zero, i.size, i.bytes)) = some (some (.agg #[.bool false, .string ⟨#[]⟩, .slice none 0 0]), 3, 48) := by kernel_rfl
/-- a row of so many items that are nothing, just laid -/
theorem RdI.made (n : Nat) (w : World) (M : Nat) : RdI n (w.alloc (.cells (madeCells #[.bool false, .string ⟨#[]⟩, .slice none 0 0] (M * 3)) 118)) (.slice (some ⟨w.heap.size, 0, none⟩) M M) (List.replicate M Item.none) := by
  have hl : (List.replicate M Item.none).length = M := by simp
  have hc : ∀ i j, i < M → j < 3 → (w.alloc (.cells (madeCells #[.bool false, .string ⟨#[]⟩, .slice none 0 0] (M * 3)) 118)).cell? ⟨w.heap.size, 0 + i * 3 + j, none⟩ = some ((#[.bool false, .string ⟨#[]⟩, .slice none 0 0] : Array Value)[j]!) := fun i j hi hj => by
    rw [World.cell?_alloc_mark]
    have hk : 0 + i * 3 + j < M * 3 := by omega
    have hm : (0 + i * 3 + j) % 3 = j := by omega
    simp only [madeCells, Array.getElem?_map, List.size_toArray, List.length_cons, List.length_nil, Nat.reduceAdd]
    rw [Array.getElem?_range, if_pos hk]
    simp only [Option.map_some, hm]
  have h0 : ReadsIn (w.alloc (.cells (madeCells #[.bool false, .string ⟨#[]⟩, .slice none 0 0] (M * 3)) 118)) (ItB n (w.alloc (.cells (madeCells #[.bool false, .string ⟨#[]⟩, .slice none 0 0] (M * 3)) 118))) (.slice (some ⟨w.heap.size, 0, none⟩) (List.replicate M Item.none).length M) (List.replicate M Item.none) := by
    refine ReadsIn.mk ⟨by simp, .inr ⟨_, World.alloc_heap_new w _⟩⟩ (fun i x hx => ?_) (by rw [hl]; exact Nat.le_refl _)
    have hi : i < M := by have := (List.getElem?_eq_some_iff.1 hx).1; simpa using this
    have hxe : x = Item.none := List.eq_of_mem_replicate (List.mem_of_getElem? hx)
    subst hxe
    exact ⟨hc i 0 hi (by omega), hc i 1 hi (by omega), _, hc i 2 hi (by omega), ReadsIn.nil _ _⟩
  rwa [hl] at h0
theorem wpList_makeI {ops : Array Oper} {rest : List Oper} {o : Oper} {a : Act} {w : World} {Q : Exit → Act → World → Prop} (hg : o.guard = none) (l c : Operand) (hop : o.op = Op.makeSlice 116 l c)
    (M : Nat) (hM : M ≤ 8) (kl kc : IntKind) (L C : Int) (hl : a.eval l = .int kl L) (hc : a.eval c = .int kc C) (hL : L = (M : Int)) (hC : C = (M : Int))
    (hK : wpList Tryz.prog ops Q rest (a.put o.dst (.slice (some ⟨w.heap.size, 0, none⟩) M M)) (w.alloc (.cells (madeCells #[.bool false, .string ⟨#[]⟩, .slice none 0 0] (M * 3)) 118))) : wpList Tryz.prog ops Q (o :: rest) a w := by
  obtain ⟨i, h1, h2, h3, h4⟩ := info_parts infoItemR
  have hb : (i.bytes : Int) * (M : Int) ≤ 281474976710656 := by rw [h4]; omega
  refine wpList_plain hg fun K hK' => ?_
  have hr := run_make (P := Tryz.prog) w _ _ i _ Tryz.underlying116 h1 h2 kl kc M M (by omega) (Int.le_refl _) hb (by omega)
  simp only [Int.toNat_natCast, h3] at hr
  subst hL
  subst hC
  unfold Oper.wp
  simp [execOp, hop, hl, hc, hr, Result.andThen]
  exact hK' _ _ hK
/-- what open leaves, of a list as it must be -/
theorem opn_good {n : Nat} {w : World} {g : Nat} {l : List Item} {b : Bool} {p : Option Addr} {c q : Nat} {xs : List Item} (h : RdAt n w g l b) (hr : RdI n w (.slice p q c) xs) (A : Array Value) (t : TypeId) :
    RdAt n ((w.alloc (.cells A t)).alloc (rdObj (.slice p q c) false)) (w.heap.size + 1) xs false ∧ RdAt n ((w.alloc (.cells A t)).alloc (rdObj (.slice p q c) false)) g l b ∧ Ext n [g] w ((w.alloc (.cells A t)).alloc (rdObj (.slice p q c) false)) := by
  have hx : Ext n [] w ((w.alloc (.cells A t)).alloc (rdObj (.slice p q c) false)) := ((Ext.refl _ _ _).alloc _).alloc _
  have hn : n ≤ w.heap.size := Nat.le_of_lt (Nat.lt_of_le_of_lt h.1 h.lt)
  obtain rfl := ReadsIn.len hr
  refine ⟨⟨by omega, _, _, ?_, hr.ext hx.c⟩, h.ext hx.c (by simp), hx.mono (by simp)⟩
  have := World.alloc_heap_new (w.alloc (.cells A t)) (rdObj (.slice p xs.length c) false)
  rwa [World.size_alloc] at this
/-- what open leaves of another item -/
theorem opn_bad {n : Nat} {w : World} {g : Nat} {l : List Item} {b : Bool} {p : Option Addr} {c : Nat} (hn : n ≤ g) (hg : w.heap[g]? = some (rdObj (.slice p l.length c) b)) (hl : RdI n w (.slice p l.length c) l) (A : Array Value) (t : TypeId) (M N : Nat) (hN : N = M * 3) :
    RdAt n ((((w.setCell ⟨g, 1, none⟩ (.bool true)).alloc (.cells A t)).alloc (.cells (madeCells #[.bool false, .string ⟨#[]⟩, .slice none 0 0] N) 118)).alloc (rdObj (.slice (some ⟨w.heap.size + 1, 0, none⟩) M M) false)) (w.heap.size + 2) (List.replicate M Item.none) false ∧
    RdAt n ((((w.setCell ⟨g, 1, none⟩ (.bool true)).alloc (.cells A t)).alloc (.cells (madeCells #[.bool false, .string ⟨#[]⟩, .slice none 0 0] N) 118)).alloc (rdObj (.slice (some ⟨w.heap.size + 1, 0, none⟩) M M) false)) g l true ∧
    Ext n [g] w ((((w.setCell ⟨g, 1, none⟩ (.bool true)).alloc (.cells A t)).alloc (.cells (madeCells #[.bool false, .string ⟨#[]⟩, .slice none 0 0] N) 118)).alloc (rdObj (.slice (some ⟨w.heap.size + 1, 0, none⟩) M M) false)) := by
  subst hN
  have hlt : g < w.heap.size := (Array.getElem?_eq_some_iff.1 hg).1
  have hx0 : Ext n [g] w (w.setCell ⟨g, 1, none⟩ (.bool true)) := Ext.set ⟨_, _, _, _, hg⟩ hn 1 _
  have hx1 := hx0.alloc (.cells A t)
  obtain ⟨w1, hw1⟩ : ∃ w1, (w.setCell ⟨g, 1, none⟩ (.bool true)).alloc (.cells A t) = w1 := ⟨_, rfl⟩
  have hs : w1.heap.size = w.heap.size + 1 := by rw [← hw1]; simp
  have hg1 : w1.heap[g]? = some (rdObj (.slice p l.length c) true) := by rw [← hw1]; exact (Below.heap_alloc _ _ _ (by simp; omega)).trans (rd_set1 hg true)
  rw [hw1] at hx1 ⊢
  have hx2 : Ext n [] w1 ((w1.alloc (.cells (madeCells #[.bool false, .string ⟨#[]⟩, .slice none 0 0] (M * 3)) 118)).alloc (rdObj (.slice (some ⟨w.heap.size + 1, 0, none⟩) M M) false)) := ((Ext.refl _ _ _).alloc _).alloc _
  have hx := hx1.trans (hx2.mono (S' := [g]) (by simp))
  have hgf : ((w1.alloc (.cells (madeCells #[.bool false, .string ⟨#[]⟩, .slice none 0 0] (M * 3)) 118)).alloc (rdObj (.slice (some ⟨w.heap.size + 1, 0, none⟩) M M) false)).heap[g]? = some (rdObj (.slice p l.length c) true) :=
    (Below.heap_alloc _ _ _ (by simp; omega)).trans ((Below.heap_alloc _ _ _ (by omega)).trans hg1)
  refine ⟨⟨by omega, some ⟨w.heap.size + 1, 0, none⟩, M, ?_, ?_⟩, ⟨hn, _, _, hgf, hl.ext hx.c⟩, hx⟩
  · have := World.alloc_heap_new (w1.alloc (.cells (madeCells #[.bool false, .string ⟨#[]⟩, .slice none 0 0] (M * 3)) 118)) (rdObj (.slice (some ⟨w.heap.size + 1, 0, none⟩) M M) false)
    rw [World.size_alloc, hs] at this
    rw [List.length_replicate]
    exact this
  · rw [List.length_replicate]
    cases M with
    | zero => exact RdI.empty _ _ _ _
    | succ M =>
      have h1 := RdI.made n w1 (M + 1)
      rw [hs] at h1
      exact h1.ext ((Ext.refl n [] _).alloc _).c
set_option maxRecDepth 100000 in
set_option maxHeartbeats 3200000 in
theorem rdOpen_2 {n : Nat} {w : World} {g : Nat} {x : Item} {l : List Item} {b : Bool} {p : Option Addr} {c : Nat} (h : RdAt n w g l b) (hr : RdI n w (.slice p x.list.length c) x.list) :
    Calls Tryz.prog 111 #[.pointer (some ⟨g, 0, none⟩), .agg #[.bool x.isList, .string (txtB x), .slice p x.list.length c], .int .i64 2] w fun e w' => ∃ k, e = .returned (.pointer (some ⟨k, 0, none⟩)) ∧ w.heap.size ≤ k ∧ RdAt n w' k (opnL x 2) false ∧ RdAt n w' g l (b || opnB x 2) ∧ Ext n [g] w w' := by
  have hlt := h.lt
  obtain ⟨hn, pg, cg, hg, hrl⟩ := h
  have c1 := rd_cell1 hg
  have f1 := rd_frozen hg 1
  have HG := Lib.hid hg
  have HN := Lib.hid hn
  have HR := Lib.hid hr
  have HL := Lib.hid hrl
  obtain ⟨tx, htx⟩ : ∃ t, txtB x = t := ⟨_, rfl⟩
  rw [htx]
  clear hg hn hr hrl htx
  cases hil : x.isList with
  | false =>
    have hB : opnB x 2 = true := by unfold opnB; rw [hil]; rfl
    rw [hB, opnL_bad hB, Bool.or_true]
    clear hB
    obtain ⟨q, hq⟩ : ∃ q, x.list.length = q := ⟨_, rfl⟩
    rw [hq] at HR ⊢
    clear hq hil
    have hmx : max (2 : Int) 0 = 2 := rfl
    go_enter Tryz.func111, Tryz.ntmps111
    go_wp2_with (at_make; refine wpList_makeI rfl _ _ rfl 2 (by omega) _ _ _ _ rfl rfl rfl rfl ?_)
    go_ret
    exact ⟨w.heap.size + 2, rfl, by omega, opn_bad HN.out HG.out HL.out _ _ 2 _ rfl⟩
  | true =>
    by_cases hq : x.list.length = 2
    · have hB : opnB x 2 = false := by unfold opnB; rw [hil, hq]; rfl
      rw [hB, opnL_good hB, Bool.or_false]
      clear hB
      rw [hq] at HR ⊢
      have HQ := Lib.hid hq
      clear hq hil
      go_enter Tryz.func111, Tryz.ntmps111
      go_wp2_with fail
      go_ret
      exact ⟨w.heap.size + 1, rfl, by omega, opn_good ⟨HN.out, _, _, HG.out, HL.out⟩ HR.out _ _⟩
    · have hB : opnB x 2 = true := by unfold opnB; rw [hil]; simp; omega
      rw [hB, opnL_bad hB, Bool.or_true]
      clear hB
      obtain ⟨q, hq'⟩ : ∃ q, x.list.length = q := ⟨_, rfl⟩
      rw [hq'] at HR hq ⊢
      have hq2 : ((q : Int) != 2) = true := by simp; omega
      clear hq' hil hq
      have hmx : max (2 : Int) 0 = 2 := rfl
      go_enter Tryz.func111, Tryz.ntmps111
      go_wp2_with (at_make; refine wpList_makeI rfl _ _ rfl 2 (by omega) _ _ _ _ rfl rfl rfl rfl ?_)
      go_ret
      exact ⟨w.heap.size + 2, rfl, by omega, opn_bad HN.out HG.out HL.out _ _ 2 _ rfl⟩
set_option maxRecDepth 100000 in
set_option maxHeartbeats 3200000 in
theorem rdOpen_3 {n : Nat} {w : World} {g : Nat} {x : Item} {l : List Item} {b : Bool} {p : Option Addr} {c : Nat} (h : RdAt n w g l b) (hr : RdI n w (.slice p x.list.length c) x.list) :
    Calls Tryz.prog 111 #[.pointer (some ⟨g, 0, none⟩), .agg #[.bool x.isList, .string (txtB x), .slice p x.list.length c], .int .i64 3] w fun e w' => ∃ k, e = .returned (.pointer (some ⟨k, 0, none⟩)) ∧ w.heap.size ≤ k ∧ RdAt n w' k (opnL x 3) false ∧ RdAt n w' g l (b || opnB x 3) ∧ Ext n [g] w w' := by
  have hlt := h.lt
  obtain ⟨hn, pg, cg, hg, hrl⟩ := h
  have c1 := rd_cell1 hg
  have f1 := rd_frozen hg 1
  have HG := Lib.hid hg
  have HN := Lib.hid hn
  have HR := Lib.hid hr
  have HL := Lib.hid hrl
  obtain ⟨tx, htx⟩ : ∃ t, txtB x = t := ⟨_, rfl⟩
  rw [htx]
  clear hg hn hr hrl htx
  cases hil : x.isList with
  | false =>
    have hB : opnB x 3 = true := by unfold opnB; rw [hil]; rfl
    rw [hB, opnL_bad hB, Bool.or_true]
    clear hB
    obtain ⟨q, hq⟩ : ∃ q, x.list.length = q := ⟨_, rfl⟩
    rw [hq] at HR ⊢
    clear hq hil
    have hmx : max (3 : Int) 0 = 3 := rfl
    go_enter Tryz.func111, Tryz.ntmps111
    go_wp2_with (at_make; refine wpList_makeI rfl _ _ rfl 3 (by omega) _ _ _ _ rfl rfl rfl rfl ?_)
    go_ret
    exact ⟨w.heap.size + 2, rfl, by omega, opn_bad HN.out HG.out HL.out _ _ 3 _ rfl⟩
  | true =>
    by_cases hq : x.list.length = 3
    · have hB : opnB x 3 = false := by unfold opnB; rw [hil, hq]; rfl
      rw [hB, opnL_good hB, Bool.or_false]
      clear hB
      rw [hq] at HR ⊢
      have HQ := Lib.hid hq
      clear hq hil
      go_enter Tryz.func111, Tryz.ntmps111
      go_wp2_with fail
      go_ret
      exact ⟨w.heap.size + 1, rfl, by omega, opn_good ⟨HN.out, _, _, HG.out, HL.out⟩ HR.out _ _⟩
    · have hB : opnB x 3 = true := by unfold opnB; rw [hil]; simp; omega
      rw [hB, opnL_bad hB, Bool.or_true]
      clear hB
      obtain ⟨q, hq'⟩ : ∃ q, x.list.length = q := ⟨_, rfl⟩
      rw [hq'] at HR hq ⊢
      have hq2 : ((q : Int) != 3) = true := by simp; omega
      clear hq' hil hq
      have hmx : max (3 : Int) 0 = 3 := rfl
      go_enter Tryz.func111, Tryz.ntmps111
      go_wp2_with (at_make; refine wpList_makeI rfl _ _ rfl 3 (by omega) _ _ _ _ rfl rfl rfl rfl ?_)
      go_ret
      exact ⟨w.heap.size + 2, rfl, by omega, opn_bad HN.out HG.out HL.out _ _ 3 _ rfl⟩
set_option maxRecDepth 100000 in
set_option maxHeartbeats 3200000 in
theorem rdOpen_5 {n : Nat} {w : World} {g : Nat} {x : Item} {l : List Item} {b : Bool} {p : Option Addr} {c : Nat} (h : RdAt n w g l b) (hr : RdI n w (.slice p x.list.length c) x.list) :
    Calls Tryz.prog 111 #[.pointer (some ⟨g, 0, none⟩), .agg #[.bool x.isList, .string (txtB x), .slice p x.list.length c], .int .i64 5] w fun e w' => ∃ k, e = .returned (.pointer (some ⟨k, 0, none⟩)) ∧ w.heap.size ≤ k ∧ RdAt n w' k (opnL x 5) false ∧ RdAt n w' g l (b || opnB x 5) ∧ Ext n [g] w w' := by
  have hlt := h.lt
  obtain ⟨hn, pg, cg, hg, hrl⟩ := h
  have c1 := rd_cell1 hg
  have f1 := rd_frozen hg 1
  have HG := Lib.hid hg
  have HN := Lib.hid hn
  have HR := Lib.hid hr
  have HL := Lib.hid hrl
  obtain ⟨tx, htx⟩ : ∃ t, txtB x = t := ⟨_, rfl⟩
  rw [htx]
  clear hg hn hr hrl htx
  cases hil : x.isList with
  | false =>
    have hB : opnB x 5 = true := by unfold opnB; rw [hil]; rfl
    rw [hB, opnL_bad hB, Bool.or_true]
    clear hB
    obtain ⟨q, hq⟩ : ∃ q, x.list.length = q := ⟨_, rfl⟩
    rw [hq] at HR ⊢
    clear hq hil
    have hmx : max (5 : Int) 0 = 5 := rfl
    go_enter Tryz.func111, Tryz.ntmps111
    go_wp2_with (at_make; refine wpList_makeI rfl _ _ rfl 5 (by omega) _ _ _ _ rfl rfl rfl rfl ?_)
    go_ret
    exact ⟨w.heap.size + 2, rfl, by omega, opn_bad HN.out HG.out HL.out _ _ 5 _ rfl⟩
  | true =>
    by_cases hq : x.list.length = 5
    · have hB : opnB x 5 = false := by unfold opnB; rw [hil, hq]; rfl
      rw [hB, opnL_good hB, Bool.or_false]
      clear hB
      rw [hq] at HR ⊢
      have HQ := Lib.hid hq
      clear hq hil
      go_enter Tryz.func111, Tryz.ntmps111
      go_wp2_with fail
      go_ret
      exact ⟨w.heap.size + 1, rfl, by omega, opn_good ⟨HN.out, _, _, HG.out, HL.out⟩ HR.out _ _⟩
    · have hB : opnB x 5 = true := by unfold opnB; rw [hil]; simp; omega
      rw [hB, opnL_bad hB, Bool.or_true]
      clear hB
      obtain ⟨q, hq'⟩ : ∃ q, x.list.length = q := ⟨_, rfl⟩
      rw [hq'] at HR hq ⊢
      have hq2 : ((q : Int) != 5) = true := by simp; omega
      clear hq' hil hq
      have hmx : max (5 : Int) 0 = 5 := rfl
      go_enter Tryz.func111, Tryz.ntmps111
      go_wp2_with (at_make; refine wpList_makeI rfl _ _ rfl 5 (by omega) _ _ _ _ rfl rfl rfl rfl ?_)
      go_ret
      exact ⟨w.heap.size + 2, rfl, by omega, opn_bad HN.out HG.out HL.out _ _ 5 _ rfl⟩
set_option maxRecDepth 100000 in
set_option maxHeartbeats 3200000 in
theorem rdOpen_8 {n : Nat} {w : World} {g : Nat} {x : Item} {l : List Item} {b : Bool} {p : Option Addr} {c : Nat} (h : RdAt n w g l b) (hr : RdI n w (.slice p x.list.length c) x.list) :
    Calls Tryz.prog 111 #[.pointer (some ⟨g, 0, none⟩), .agg #[.bool x.isList, .string (txtB x), .slice p x.list.length c], .int .i64 8] w fun e w' => ∃ k, e = .returned (.pointer (some ⟨k, 0, none⟩)) ∧ w.heap.size ≤ k ∧ RdAt n w' k (opnL x 8) false ∧ RdAt n w' g l (b || opnB x 8) ∧ Ext n [g] w w' := by
  have hlt := h.lt
  obtain ⟨hn, pg, cg, hg, hrl⟩ := h
  have c1 := rd_cell1 hg
  have f1 := rd_frozen hg 1
  have HG := Lib.hid hg
  have HN := Lib.hid hn
  have HR := Lib.hid hr
  have HL := Lib.hid hrl
  obtain ⟨tx, htx⟩ : ∃ t, txtB x = t := ⟨_, rfl⟩
  rw [htx]
  clear hg hn hr hrl htx
  cases hil : x.isList with
  | false =>
    have hB : opnB x 8 = true := by unfold opnB; rw [hil]; rfl
    rw [hB, opnL_bad hB, Bool.or_true]
    clear hB
    obtain ⟨q, hq⟩ : ∃ q, x.list.length = q := ⟨_, rfl⟩
    rw [hq] at HR ⊢
    clear hq hil
    have hmx : max (8 : Int) 0 = 8 := rfl
    go_enter Tryz.func111, Tryz.ntmps111
    go_wp2_with (at_make; refine wpList_makeI rfl _ _ rfl 8 (by omega) _ _ _ _ rfl rfl rfl rfl ?_)
    go_ret
    exact ⟨w.heap.size + 2, rfl, by omega, opn_bad HN.out HG.out HL.out _ _ 8 _ rfl⟩
  | true =>
    by_cases hq : x.list.length = 8
    · have hB : opnB x 8 = false := by unfold opnB; rw [hil, hq]; rfl
      rw [hB, opnL_good hB, Bool.or_false]
      clear hB
      rw [hq] at HR ⊢
      have HQ := Lib.hid hq
      clear hq hil
      go_enter Tryz.func111, Tryz.ntmps111
      go_wp2_with fail
      go_ret
      exact ⟨w.heap.size + 1, rfl, by omega, opn_good ⟨HN.out, _, _, HG.out, HL.out⟩ HR.out _ _⟩
    · have hB : opnB x 8 = true := by unfold opnB; rw [hil]; simp; omega
      rw [hB, opnL_bad hB, Bool.or_true]
      clear hB
      obtain ⟨q, hq'⟩ : ∃ q, x.list.length = q := ⟨_, rfl⟩
      rw [hq'] at HR hq ⊢
      have hq2 : ((q : Int) != 8) = true := by simp; omega
      clear hq' hil hq
      have hmx : max (8 : Int) 0 = 8 := rfl
      go_enter Tryz.func111, Tryz.ntmps111
      go_wp2_with (at_make; refine wpList_makeI rfl _ _ rfl 8 (by omega) _ _ _ _ rfl rfl rfl rfl ?_)
      go_ret
      exact ⟨w.heap.size + 2, rfl, by omega, opn_bad HN.out HG.out HL.out _ _ 8 _ rfl⟩
set_option maxRecDepth 100000 in
set_option maxHeartbeats 3200000 in
theorem rdOpen_m1 {n : Nat} {w : World} {g : Nat} {x : Item} {l : List Item} {b : Bool} {p : Option Addr} {c : Nat} (h : RdAt n w g l b) (hr : RdI n w (.slice p x.list.length c) x.list) :
    Calls Tryz.prog 111 #[.pointer (some ⟨g, 0, none⟩), .agg #[.bool x.isList, .string (txtB x), .slice p x.list.length c], .int .i64 (-1)] w fun e w' => ∃ k, e = .returned (.pointer (some ⟨k, 0, none⟩)) ∧ w.heap.size ≤ k ∧ RdAt n w' k (opnL x (-1)) false ∧ RdAt n w' g l (b || opnB x (-1)) ∧ Ext n [g] w w' := by
  have hlt := h.lt
  obtain ⟨hn, pg, cg, hg, hrl⟩ := h
  have c1 := rd_cell1 hg
  have f1 := rd_frozen hg 1
  have HG := Lib.hid hg
  have HN := Lib.hid hn
  have HR := Lib.hid hr
  have HL := Lib.hid hrl
  obtain ⟨tx, htx⟩ : ∃ t, txtB x = t := ⟨_, rfl⟩
  rw [htx]
  clear hg hn hr hrl htx
  cases hil : x.isList with
  | false =>
    have hB : opnB x (-1) = true := by unfold opnB; rw [hil]; rfl
    rw [hB, opnL_bad hB, Bool.or_true]
    clear hB
    obtain ⟨q, hq⟩ : ∃ q, x.list.length = q := ⟨_, rfl⟩
    rw [hq] at HR ⊢
    clear hq hil
    have hmx : max (-1 : Int) 0 = 0 := rfl
    go_enter Tryz.func111, Tryz.ntmps111
    go_wp2_with (at_make; refine wpList_makeI rfl _ _ rfl 0 (by omega) _ _ _ _ rfl rfl rfl rfl ?_)
    go_ret
    exact ⟨w.heap.size + 2, rfl, by omega, opn_bad HN.out HG.out HL.out _ _ 0 _ rfl⟩
  | true =>
    have hB : opnB x (-1) = false := by unfold opnB; rw [hil]; rfl
    rw [hB, opnL_good hB, Bool.or_false]
    clear hB
    obtain ⟨q, hq⟩ : ∃ q, x.list.length = q := ⟨_, rfl⟩
    rw [hq] at HR ⊢
    have HQ := Lib.hid hq
    clear hq hil
    go_enter Tryz.func111, Tryz.ntmps111
    go_wp2_with fail
    go_ret
    exact ⟨w.heap.size + 1, rfl, by omega, opn_good ⟨HN.out, _, _, HG.out, HL.out⟩ HR.out _ _⟩
end Go.Proofs.YtpfmdhcmhcoddaaGreatDoor

/- Contracts of a reader's text and number. -/
namespace Go.Proofs.YtpfmdhcmhcoddaaGreatDoor
open Go.RowKit Go.Shelf Go.Lib
attribute [local go_sem] Oper.semAt_some

theorem RdAt.set1 {n : Nat} {w : World} {g : Nat} {l : List Item} {b : Bool} (h : RdAt n w g l b) (c : Bool) : RdAt n (w.setCell ⟨g, 1, none⟩ (.bool c)) g l c ∧ Ext n [g] w (w.setCell ⟨g, 1, none⟩ (.bool c)) := by
  have hx : Ext n [g] w (w.setCell ⟨g, 1, none⟩ (.bool c)) := Ext.set h.isRd h.1 1 _
  obtain ⟨hn, p, cp, h1, h2⟩ := h
  exact ⟨⟨hn, p, cp, rd_set1 h1 c, h2.ext hx.c⟩, hx⟩
theorem RdAt.cells {n : Nat} {w : World} {g : Nat} {l : List Item} {b : Bool} (h : RdAt n w g l b) : w.cell? ⟨g, 1, none⟩ = some (.bool b) ∧ w.frozen? ⟨g, 1, none⟩ = false := by
  obtain ⟨_, p, c, h1, _⟩ := h
  exact ⟨rd_cell1 h1, rd_frozen h1 1⟩
set_option maxRecDepth 100000 in
set_option maxHeartbeats 3200000 in
theorem rdText_two {n : Nat} {w : World} {g t : Nat} {x : Item} {l lt : List Item} {b bt : Bool} (hg : RdAt n w g (x :: l) b) (ht : RdAt n w t lt bt) (hne : g ≠ t) : Calls Tryz.prog 67 #[.pointer (some ⟨g, 0, none⟩), .pointer (some ⟨t, 0, none⟩)] w fun e w' => e = .returned (.string (txtB x)) ∧ RdAt n w' g l b ∧ RdAt n w' t lt (bt || x.isList) ∧ Ext n [g, t] w w' := by
  have H := Lib.hid (rdItem_any hg)
  have HT := Lib.hid ht
  have HNE := Lib.hid hne
  clear hg ht hne
  go_enter Tryz.func67, Tryz.ntmps67
  go_wp2_with fail
  refine H.out.mono ?_
  rintro e w1 ⟨⟨p, c, rfl, hx⟩, h1, h2⟩
  have ht1 := HT.out.ext h2.c (by have := HNE.out; simp; omega)
  obtain ⟨c1, f1⟩ := ht1.cells
  have hlt := ht1.lt
  have hs : ∀ v, RdAt n (w1.setCell ⟨t, 1, none⟩ (.bool v)) t lt v ∧ Ext n [t] w1 (w1.setCell ⟨t, 1, none⟩ (.bool v)) := fun v => ht1.set1 v
  have HS := Lib.hid hs
  have H1 := Lib.hid h1
  have H2 := Lib.hid h2
  clear hs h1 h2 ht1 hx
  cases bt with
  | false =>
    go_wp2_with fail
    go_ret
    rw [Bool.false_or]
    obtain ⟨q1, q2⟩ := HS.out x.isList
    have qa : Ext n [] (w1.setCell ⟨t, 1, none⟩ (.bool x.isList)) ((w1.setCell ⟨t, 1, none⟩ (.bool x.isList)).alloc (.cells #[.bool x.isList, .string (txtB x), .slice p x.list.length c] 118)) := (Ext.refl _ _ _).alloc _
    exact ⟨rfl, (H1.out.ext q2.c (by have := HNE.out; simp; omega)).ext qa.c (by simp), q1.ext qa.c (by simp), ((H2.out.mono (by simp)).trans (q2.mono (by simp))).trans (qa.mono (by simp))⟩
  | true =>
    go_wp2_with fail
    go_ret
    rw [Bool.true_or]
    obtain ⟨q1, q2⟩ := HS.out true
    have qa : Ext n [] (w1.setCell ⟨t, 1, none⟩ (.bool true)) ((w1.setCell ⟨t, 1, none⟩ (.bool true)).alloc (.cells #[.bool x.isList, .string (txtB x), .slice p x.list.length c] 118)) := (Ext.refl _ _ _).alloc _
    exact ⟨rfl, (H1.out.ext q2.c (by have := HNE.out; simp; omega)).ext qa.c (by simp), q1.ext qa.c (by simp), ((H2.out.mono (by simp)).trans (q2.mono (by simp))).trans (qa.mono (by simp))⟩
set_option maxRecDepth 100000 in
set_option maxHeartbeats 3200000 in
theorem rdText_one {n : Nat} {w : World} {g : Nat} {x : Item} {l : List Item} {bt : Bool} (hg : RdAt n w g (x :: l) bt) : Calls Tryz.prog 67 #[.pointer (some ⟨g, 0, none⟩), .pointer (some ⟨g, 0, none⟩)] w fun e w' => e = .returned (.string (txtB x)) ∧ RdAt n w' g l (bt || x.isList) ∧ Ext n [g] w w' := by
  have H := Lib.hid (rdItem_any hg)
  clear hg
  go_enter Tryz.func67, Tryz.ntmps67
  go_wp2_with fail
  refine H.out.mono ?_
  rintro e w1 ⟨⟨p, c, rfl, hx⟩, h1, h2⟩
  have ht1 := h1
  obtain ⟨c1, f1⟩ := ht1.cells
  have hlt := ht1.lt
  have hs : ∀ v, RdAt n (w1.setCell ⟨g, 1, none⟩ (.bool v)) g l v ∧ Ext n [g] w1 (w1.setCell ⟨g, 1, none⟩ (.bool v)) := fun v => ht1.set1 v
  have HS := Lib.hid hs
  have H1 := Lib.hid h1
  have H2 := Lib.hid h2
  clear hs h1 h2 ht1 hx
  cases bt with
  | false =>
    go_wp2_with fail
    go_ret
    rw [Bool.false_or]
    obtain ⟨q1, q2⟩ := HS.out x.isList
    have qa : Ext n [] (w1.setCell ⟨g, 1, none⟩ (.bool x.isList)) ((w1.setCell ⟨g, 1, none⟩ (.bool x.isList)).alloc (.cells #[.bool x.isList, .string (txtB x), .slice p x.list.length c] 118)) := (Ext.refl _ _ _).alloc _
    exact ⟨rfl, q1.ext qa.c (by simp), (H2.out.trans q2).trans (qa.mono (by simp))⟩
  | true =>
    go_wp2_with fail
    go_ret
    rw [Bool.true_or]
    obtain ⟨q1, q2⟩ := HS.out true
    have qa : Ext n [] (w1.setCell ⟨g, 1, none⟩ (.bool true)) ((w1.setCell ⟨g, 1, none⟩ (.bool true)).alloc (.cells #[.bool x.isList, .string (txtB x), .slice p x.list.length c] 118)) := (Ext.refl _ _ _).alloc _
    exact ⟨rfl, q1.ext qa.c (by simp), (H2.out.trans q2).trans (qa.mono (by simp))⟩
set_option maxRecDepth 100000 in
set_option maxHeartbeats 3200000 in
theorem rdNumber_two {n : Nat} {w : World} {g t : Nat} {x : Item} {l lt : List Item} {b bt : Bool} (hg : RdAt n w g (x :: l) b) (ht : RdAt n w t lt bt) (hne : g ≠ t) : Calls Tryz.prog 66 #[.pointer (some ⟨g, 0, none⟩), .pointer (some ⟨t, 0, none⟩)] w fun e w' => e = .returned (.int .u64 (numV x)) ∧ RdAt n w' g l b ∧ RdAt n w' t lt (bt || numB x) ∧ Ext n [g, t] w w' := by
  have H := Lib.hid (rdText_two hg ht hne)
  have hV : ∀ W, Calls Tryz.prog 94 #[.string (txtB x)] W fun e w' => e = .returned (valueV x.text) ∧ w' = W := fun W => value_any (txtB x) W
  obtain ⟨nv, hnv⟩ : ∃ v, (value x.text).1 = v := ⟨_, rfl⟩
  obtain ⟨ce, hce⟩ : ∃ v, (value x.text).2 = v := ⟨_, rfl⟩
  unfold valueV at hV
  rw [hnv, hce] at hV
  have HV := Lib.hid hV
  have hNB : numB x = (x.isList || decide (ce ≠ 0)) := by rw [← hce]; rfl
  have hNV : numV x = nv := hnv
  rw [hNB, hNV]
  obtain ⟨ib, hib⟩ : ∃ v, x.isList = v := ⟨_, rfl⟩
  rw [hib] at H ⊢
  have HNE := Lib.hid hne
  clear hg ht hne
  clear hV hnv hce hNB hNV hib
  rw [← Bool.or_assoc]
  obtain ⟨b1, hb1⟩ : ∃ v, (bt || ib) = v := ⟨_, rfl⟩
  rw [hb1] at H ⊢
  clear hb1
  have hcb : (ce != 0) = decide (ce ≠ 0) := by by_cases hc : ce = 0 <;> simp [hc]
  obtain ⟨d, hd⟩ : ∃ d, decide (ce ≠ 0) = d := ⟨_, rfl⟩
  rw [hd] at hcb ⊢
  clear hd
  cases d with
  | false =>
    cases b1 with
    | false =>
      go_enter Tryz.func66, Tryz.ntmps66
      go_wp2_with fail
      refine H.out.mono ?_
      rintro e w1 ⟨rfl, h1, ht1, h2⟩
      obtain ⟨c1, f1⟩ := ht1.cells
      have hlt := ht1.lt
      have hs : ∀ v, RdAt n (w1.setCell ⟨t, 1, none⟩ (.bool v)) t lt v ∧ Ext n [t] w1 (w1.setCell ⟨t, 1, none⟩ (.bool v)) := fun v => ht1.set1 v
      have HS := Lib.hid hs
      have H1 := Lib.hid h1
      clear h1
      have H2 := Lib.hid h2
      clear hs h2 ht1
      go_wp2_with fail
      refine (HV.out w1).mono ?_
      rintro e w2 ⟨rfl, rfl⟩
      go_wp2_with fail
      go_ret
      obtain ⟨q1, q2⟩ := HS.out false
      exact ⟨rfl, H1.out.ext q2.c (by have := HNE.out; simp; omega), q1, H2.out.trans (q2.mono (by simp))⟩
    | true =>
      go_enter Tryz.func66, Tryz.ntmps66
      go_wp2_with fail
      refine H.out.mono ?_
      rintro e w1 ⟨rfl, h1, ht1, h2⟩
      obtain ⟨c1, f1⟩ := ht1.cells
      have hlt := ht1.lt
      have hs : ∀ v, RdAt n (w1.setCell ⟨t, 1, none⟩ (.bool v)) t lt v ∧ Ext n [t] w1 (w1.setCell ⟨t, 1, none⟩ (.bool v)) := fun v => ht1.set1 v
      have HS := Lib.hid hs
      have H1 := Lib.hid h1
      clear h1
      have H2 := Lib.hid h2
      clear hs h2 ht1
      go_wp2_with fail
      refine (HV.out w1).mono ?_
      rintro e w2 ⟨rfl, rfl⟩
      go_wp2_with fail
      go_ret
      obtain ⟨q1, q2⟩ := HS.out true
      exact ⟨rfl, H1.out.ext q2.c (by have := HNE.out; simp; omega), q1, H2.out.trans (q2.mono (by simp))⟩
  | true =>
    cases b1 with
    | false =>
      go_enter Tryz.func66, Tryz.ntmps66
      go_wp2_with fail
      refine H.out.mono ?_
      rintro e w1 ⟨rfl, h1, ht1, h2⟩
      obtain ⟨c1, f1⟩ := ht1.cells
      have hlt := ht1.lt
      have hs : ∀ v, RdAt n (w1.setCell ⟨t, 1, none⟩ (.bool v)) t lt v ∧ Ext n [t] w1 (w1.setCell ⟨t, 1, none⟩ (.bool v)) := fun v => ht1.set1 v
      have HS := Lib.hid hs
      have H1 := Lib.hid h1
      clear h1
      have H2 := Lib.hid h2
      clear hs h2 ht1
      go_wp2_with fail
      refine (HV.out w1).mono ?_
      rintro e w2 ⟨rfl, rfl⟩
      go_wp2_with fail
      go_ret
      obtain ⟨q1, q2⟩ := HS.out true
      exact ⟨rfl, H1.out.ext q2.c (by have := HNE.out; simp; omega), q1, H2.out.trans (q2.mono (by simp))⟩
    | true =>
      go_enter Tryz.func66, Tryz.ntmps66
      go_wp2_with fail
      refine H.out.mono ?_
      rintro e w1 ⟨rfl, h1, ht1, h2⟩
      obtain ⟨c1, f1⟩ := ht1.cells
      have hlt := ht1.lt
      have hs : ∀ v, RdAt n (w1.setCell ⟨t, 1, none⟩ (.bool v)) t lt v ∧ Ext n [t] w1 (w1.setCell ⟨t, 1, none⟩ (.bool v)) := fun v => ht1.set1 v
      have HS := Lib.hid hs
      have H1 := Lib.hid h1
      clear h1
      have H2 := Lib.hid h2
      clear hs h2 ht1
      go_wp2_with fail
      refine (HV.out w1).mono ?_
      rintro e w2 ⟨rfl, rfl⟩
      go_wp2_with fail
      go_ret
      obtain ⟨q1, q2⟩ := HS.out true
      exact ⟨rfl, H1.out.ext q2.c (by have := HNE.out; simp; omega), q1, H2.out.trans (q2.mono (by simp))⟩
set_option maxRecDepth 100000 in
set_option maxHeartbeats 3200000 in
theorem rdNumber_one {n : Nat} {w : World} {g : Nat} {x : Item} {l : List Item} {bt : Bool} (hg : RdAt n w g (x :: l) bt) : Calls Tryz.prog 66 #[.pointer (some ⟨g, 0, none⟩), .pointer (some ⟨g, 0, none⟩)] w fun e w' => e = .returned (.int .u64 (numV x)) ∧ RdAt n w' g l (bt || numB x) ∧ Ext n [g] w w' := by
  have H := Lib.hid (rdText_one hg)
  have hV : ∀ W, Calls Tryz.prog 94 #[.string (txtB x)] W fun e w' => e = .returned (valueV x.text) ∧ w' = W := fun W => value_any (txtB x) W
  obtain ⟨nv, hnv⟩ : ∃ v, (value x.text).1 = v := ⟨_, rfl⟩
  obtain ⟨ce, hce⟩ : ∃ v, (value x.text).2 = v := ⟨_, rfl⟩
  unfold valueV at hV
  rw [hnv, hce] at hV
  have HV := Lib.hid hV
  have hNB : numB x = (x.isList || decide (ce ≠ 0)) := by rw [← hce]; rfl
  have hNV : numV x = nv := hnv
  rw [hNB, hNV]
  obtain ⟨ib, hib⟩ : ∃ v, x.isList = v := ⟨_, rfl⟩
  rw [hib] at H ⊢
  clear hg
  clear hV hnv hce hNB hNV hib
  rw [← Bool.or_assoc]
  obtain ⟨b1, hb1⟩ : ∃ v, (bt || ib) = v := ⟨_, rfl⟩
  rw [hb1] at H ⊢
  clear hb1
  have hcb : (ce != 0) = decide (ce ≠ 0) := by by_cases hc : ce = 0 <;> simp [hc]
  obtain ⟨d, hd⟩ : ∃ d, decide (ce ≠ 0) = d := ⟨_, rfl⟩
  rw [hd] at hcb ⊢
  clear hd
  cases d with
  | false =>
    cases b1 with
    | false =>
      go_enter Tryz.func66, Tryz.ntmps66
      go_wp2_with fail
      refine H.out.mono ?_
      rintro e w1 ⟨rfl, ht1, h2⟩
      obtain ⟨c1, f1⟩ := ht1.cells
      have hlt := ht1.lt
      have hs : ∀ v, RdAt n (w1.setCell ⟨g, 1, none⟩ (.bool v)) g l v ∧ Ext n [g] w1 (w1.setCell ⟨g, 1, none⟩ (.bool v)) := fun v => ht1.set1 v
      have HS := Lib.hid hs
      have H2 := Lib.hid h2
      clear hs h2 ht1
      go_wp2_with fail
      refine (HV.out w1).mono ?_
      rintro e w2 ⟨rfl, rfl⟩
      go_wp2_with fail
      go_ret
      obtain ⟨q1, q2⟩ := HS.out false
      exact ⟨rfl, q1, H2.out.trans q2⟩
    | true =>
      go_enter Tryz.func66, Tryz.ntmps66
      go_wp2_with fail
      refine H.out.mono ?_
      rintro e w1 ⟨rfl, ht1, h2⟩
      obtain ⟨c1, f1⟩ := ht1.cells
      have hlt := ht1.lt
      have hs : ∀ v, RdAt n (w1.setCell ⟨g, 1, none⟩ (.bool v)) g l v ∧ Ext n [g] w1 (w1.setCell ⟨g, 1, none⟩ (.bool v)) := fun v => ht1.set1 v
      have HS := Lib.hid hs
      have H2 := Lib.hid h2
      clear hs h2 ht1
      go_wp2_with fail
      refine (HV.out w1).mono ?_
      rintro e w2 ⟨rfl, rfl⟩
      go_wp2_with fail
      go_ret
      obtain ⟨q1, q2⟩ := HS.out true
      exact ⟨rfl, q1, H2.out.trans q2⟩
  | true =>
    cases b1 with
    | false =>
      go_enter Tryz.func66, Tryz.ntmps66
      go_wp2_with fail
      refine H.out.mono ?_
      rintro e w1 ⟨rfl, ht1, h2⟩
      obtain ⟨c1, f1⟩ := ht1.cells
      have hlt := ht1.lt
      have hs : ∀ v, RdAt n (w1.setCell ⟨g, 1, none⟩ (.bool v)) g l v ∧ Ext n [g] w1 (w1.setCell ⟨g, 1, none⟩ (.bool v)) := fun v => ht1.set1 v
      have HS := Lib.hid hs
      have H2 := Lib.hid h2
      clear hs h2 ht1
      go_wp2_with fail
      refine (HV.out w1).mono ?_
      rintro e w2 ⟨rfl, rfl⟩
      go_wp2_with fail
      go_ret
      obtain ⟨q1, q2⟩ := HS.out true
      exact ⟨rfl, q1, H2.out.trans q2⟩
    | true =>
      go_enter Tryz.func66, Tryz.ntmps66
      go_wp2_with fail
      refine H.out.mono ?_
      rintro e w1 ⟨rfl, ht1, h2⟩
      obtain ⟨c1, f1⟩ := ht1.cells
      have hlt := ht1.lt
      have hs : ∀ v, RdAt n (w1.setCell ⟨g, 1, none⟩ (.bool v)) g l v ∧ Ext n [g] w1 (w1.setCell ⟨g, 1, none⟩ (.bool v)) := fun v => ht1.set1 v
      have HS := Lib.hid hs
      have H2 := Lib.hid h2
      clear hs h2 ht1
      go_wp2_with fail
      refine (HV.out w1).mono ?_
      rintro e w2 ⟨rfl, rfl⟩
      go_wp2_with fail
      go_ret
      obtain ⟨q1, q2⟩ := HS.out true
      exact ⟨rfl, q1, H2.out.trans q2⟩
end Go.Proofs.YtpfmdhcmhcoddaaGreatDoor

/- The iterator of a reader: each, and its walk. -/
namespace Go.Proofs.YtpfmdhcmhcoddaaGreatDoor
open Go.RowKit Go.Shelf Go.Lib
attribute [local go_sem] Oper.semAt_some

/-- an element: the item, where its list lies -/
abbrev ItV := Item × Value
def encR (x : ItV) : Array Value := #[.agg #[.bool x.1.isList, .string (txtB x.1), x.2]]
/-- what a round keeps: the captured variable, the reader, and items -/
def KeptR (n b1 k : Nat) (W W' : World) : Prop := W.heap.size ≤ W'.heap.size ∧ (∀ o : Obj, o.isCells = true → (W.heap[b1]? = some o → W'.heap[b1]? = some o) ∧ (W.heap[k]? = some o → W'.heap[k]? = some o)) ∧ ∀ v l, RdI n W v l → RdI n W' v l
def lenAt (W : World) (k : Nat) : Nat := match W.cell? ⟨k, 0, none⟩ with
  | some (.slice _ n _) => n
  | _ => 0
theorem lenAt_of {n : Nat} {W : World} {k : Nat} {l : List Item} {b : Bool} (h : RdAt n W k l b) : lenAt W k = l.length := by
  obtain ⟨_, p, c, h1, _⟩ := h
  unfold lenAt
  rw [rd_cell0 h1]
theorem KeptR.rd {n b1 k : Nat} {W W' : World} {l : List Item} {b : Bool} (h : KeptR n b1 k W W') (hr : RdAt n W k l b) : RdAt n W' k l b := by
  obtain ⟨hn, p, c, h1, h2⟩ := hr
  exact ⟨hn, p, c, (h.2.1 _ rfl).2 h1, h.2.2 _ _ h2⟩
theorem each_any (F : Fence) (n : Nat) (hf : F.fn 113) (hro : F.round = none) (k : Nat) (w : World) :
    CallsIn F n Tryz.prog 113 #[.pointer (some ⟨k, 0, none⟩)] w fun e w' => e = .returned (.func (.func 179) #[] #[.pointer (some ⟨w.heap.size, 0, none⟩)]) ∧ w' = w.alloc (.cells #[.pointer (some ⟨k, 0, none⟩)] 141) := by
  refine callsIn_of_wp Tryz.func113 rfl hf ?_ hro
  simp only [Tryz.ntmps113, List.size_toArray, List.length_cons, List.length_nil, Nat.reduceAdd, Nat.reduceSub, Array.replicate_succ, Array.replicate_zero, List.push_toArray, List.append_toArray, List.nil_append, List.cons_append]
  gi_wp2
  go_ret
  exact ⟨rfl, rfl⟩

set_option maxRecDepth 100000 in
set_option maxHeartbeats 3200000 in
theorem each_body (m : Nat) (hm : 1 ≤ m) (l n b1 k : Nat) (items : List Item) (J Jx : List ItV → World → Prop) (hJ : ∀ pre W0 W1, J pre W0 → Ext n [k] W0 W1 → J pre W1)
    (hY : ∀ pre x W1, J pre W1 → RdI n W1 x.2 x.1.list → (∃ r, items = pre.map Prod.fst ++ x.1 :: r) → YieldAt Fence.wide (m - 1) Tryz.prog l (encR x) W1 fun e W' =>
      (e = .returned (.bool true) ∧ J (pre ++ [x]) W' ∧ KeptR n b1 k W1 W') ∨ (e = .returned (.bool false) ∧ Jx (pre ++ [x]) W'))
    (W : World) (hb1 : Boxed W b1 141 (.pointer (some ⟨k, 0, none⟩))) (hk : RdAt n W k items false) (hne : b1 ≠ k) (h0 : J [] W) :
    CallsIn Fence.wide m Tryz.prog 179 #[.func (.yield l) #[] #[], .pointer (some ⟨b1, 0, none⟩)] W fun e W' => (∃ v, e = .returned v) ∧
      ((∃ ys, ys.map Prod.fst = items ∧ J ys W') ∨ (∃ pre, Jx pre W')) := by
  refine callsIn_of_wp Tryz.func179 rfl trivial ?_ rfl
  simp only [Tryz.ntmps179, List.size_toArray, List.length_cons, List.length_nil, Nat.reduceAdd, Nat.reduceSub, Array.replicate_succ, Array.replicate_zero, List.push_toArray, List.append_toArray, List.nil_append, List.cons_append]
  gi_wp2
  gi_loopw [3] (fun _ wr => ∃ pre rest, Hid (items = pre.map Prod.fst ++ rest) ∧ Boxed wr b1 141 (.pointer (some ⟨k, 0, none⟩)) ∧ Hid (RdAt n wr k rest false) ∧ J pre wr) (fun _ wr => lenAt wr k)
  case atStart => exact ⟨[], items, Lib.hid rfl, hb1, Lib.hid hk, h0⟩
  case round =>
    obtain ⟨pre, rest, HI, hb, HR, hJ0⟩ := hrel
    have hc := hb.cell
    have hbl := hb.lt
    obtain ⟨p, c, h1⟩ : ∃ p c, wr.cell? ⟨k, 0, none⟩ = some (.slice p rest.length c) := by
      obtain ⟨_, p, c, h1, _⟩ := HR.out
      exact ⟨p, c, rd_cell0 h1⟩
    have hkl := HR.out.lt
    cases rest with
    | nil =>
      gi_wp2
      go_end0
      exact ⟨⟨_, rfl⟩, .inl ⟨pre, (by rw [HI.out]; simp), hJ0⟩⟩
    | cons x r =>
      have hle : (0 : Int) < ((x :: r).length : Int) := by simp
      obtain ⟨q, hq⟩ : ∃ q, (x :: r).length = q := ⟨_, rfl⟩
      rw [hq] at h1 hle
      have HQ := Lib.hid hq
      clear hq
      have H := Lib.hid (rdItem_any HR.out)
      have HB := Lib.hid hb
      have HJ0 := Lib.hid hJ0
      clear hb hJ0
      gi_wp2_with fail
      refine ⟨trivial, ?_⟩
      gi_at_call 112
      refine (callsIn_wide.2 H.out).mono ?_
      rintro e w1 ⟨⟨px, cx, rfl, hx⟩, hr1, he1⟩
      have hb2 : Boxed w1 b1 141 (.pointer (some ⟨k, 0, none⟩)) := (he1.block b1 HB.out.lt (.inr (.inl (by simpa using hne)))).trans HB.out
      obtain ⟨f1, t1, a1, b1', hy1, hR1⟩ := hY pre (x, .slice px x.list.length cx) w1 (hJ _ _ _ HJ0.out he1) hx ⟨r, HI.out⟩
      have HB2 := Lib.hid hb2
      have HR1 := Lib.hid hr1
      clear hb2 hr1 he1 hx hc h1 hle
      simp only [encR] at hy1
      gi_wp2
      refine hR1.mono ?_
      clear hy1
      rintro e W1 (⟨rfl, hJ1, hk1⟩ | ⟨rfl, hx1⟩)
      · have hb3 : Boxed W1 b1 141 (.pointer (some ⟨k, 0, none⟩)) := (hk1.2.1 _ rfl).1 HB2.out
        have HB3 := Lib.hid hb3
        have HR2 := Lib.hid (hk1.rd HR1.out)
        clear hb3 hk1
        gi_wp2
        go_roundw
        case rel => exact ⟨_, r, Lib.hid (by rw [HI.out]; simp), HB3.out, HR2, hJ1⟩
        case measure => rw [lenAt_of HR2.out, lenAt_of HR.out]; simp
      · gi_wp2
        refine bodyPost_ret (results_none rfl _ _ _) rfl ?_
        exact ⟨⟨_, rfl⟩, .inr ⟨_, hx1⟩⟩
end Go.Proofs.YtpfmdhcmhcoddaaGreatDoor
