/- Contract of a reader's texts. -/
import Derived.Test.YtpfmdhcmhcoddaaGreatDoorRdB
import Derived.Test.YtpfmdhcmhcoddaaGreatDoorSszE
import Derived.Deep.MidRow
namespace Go.Proofs.YtpfmdhcmhcoddaaGreatDoor
open Go.RowKit Go.Shelf Go.Lib
attribute [local go_sem] Oper.semAt_some

theorem RdI.keep {n : Nat} {W W' : World} (hs : W.heap.size ≤ W'.heap.size) (h : ∀ (j : Nat) (o : Obj), W.heap[j]? = some o → o.isCells = true → (j < n ∨ ∃ cs, o = .cells cs 118 (0, 0)) → W'.heap[j]? = some o) {v : Value} {l : List Item} (hr : RdI n W v l) : RdI n W' v l :=
  ReadsIn.kept hr (fun g _ o hg hc => by
    obtain ⟨ob, h1, h2⟩ := cells_of hc
    have hb : W'.heap[g]? = some ob := h g ob h1 h2 (hg.2.imp id (fun ⟨cs, e⟩ => ⟨cs, Option.some.inj (h1.symm.trans e)⟩))
    exact (World.cell?_of_block (a := ⟨g, o, none⟩) (hb.trans h1.symm)).trans hc)
    (fun g hg => ⟨Nat.lt_of_lt_of_le hg.1 hs, hg.2.imp id (fun ⟨cs, e⟩ => ⟨cs, h g _ e rfl (.inr ⟨cs, rfl⟩)⟩)⟩)
/-- what texts holds between two rounds -/
def TxI (n g k b0 : Nat) (bad : Bool) (lg : List Item) (base : Nat) (w : World) (l : List ByteArray) (W : World) : Prop :=
  ∃ v, Boxed W b0 141 (.pointer (some ⟨g, 0, none⟩)) ∧ Boxed W (b0 + 1) 27 v ∧ OwnS base W v l ∧ RdAt n W g lg bad ∧ Ext n [g, k] w W ∧ base ≤ W.heap.size
theorem Ext.grown {n : Nat} {S : List Nat} {a b c : World} {row : Option Nat} (h : Ext n S a b) (hg : b.grownBy c row) (hr : ∀ r, row = some r → a.heap.size ≤ r) : Ext n S a c :=
  ⟨hg.os.trans h.os, hg.tape.trans h.tape, hg.output.trans h.output, Nat.le_trans h.size hg.size, fun i hi hc => (hg.block i (Nat.lt_of_lt_of_le hi h.size) (fun e => by have := hr i e.symm; omega)).trans (h.block i hi hc)⟩
theorem TxI.grown {n g k b0 : Nat} {bad : Bool} {lg : List Item} {base : Nat} {w : World} {l : List ByteArray} {W W' : World} {row : Option Nat} (h : TxI n g k b0 bad lg base w l W) (hg : W.grownBy W' row)
    (h1 : ∀ r, row = some r → w.heap.size ≤ r ∧ ∃ o : Obj, W.heap[r]? = some o ∧ o.isCells = false) : TxI n g k b0 bad lg base w l W' := by
  obtain ⟨v, a1, a2, a3, a4, a5, a6⟩ := h
  have hx : ExtC n [] W W' := ExtC.grown hg (fun r e => (h1 r e).2)
  refine ⟨v, hx.block _ _ a1 rfl (.inr (.inl (by simp))), hx.block _ _ a2 rfl (.inr (.inl (by simp))), a3.of_block (fun j e => ?_), a4.ext hx (by simp), a5.grown hg (fun r e => (h1 r e).1), Nat.le_trans a6 hg.size⟩
  obtain ⟨o, ho, hc⟩ := a3.cellsAt e
  exact (hx.block j o ho hc (.inr (.inl (by simp)))).trans ho.symm
theorem TxI.step {n g k b0 : Nat} {bad : Bool} {lg : List Item} {base : Nat} {w : World} {l : List ByteArray} {W W' : World} (h : TxI n g k b0 bad lg base w l W) (hs : Ext n [k] W W') (hk : g ≠ k ∧ b0 ≠ k ∧ b0 + 1 ≠ k ∧ k < base) : TxI n g k b0 bad lg base w l W' := by
  obtain ⟨v, a1, a2, a3, a4, a5, a6⟩ := h
  refine ⟨v, (hs.block _ a1.lt (.inr (.inl (by simp; omega)))).trans a1, (hs.block _ a2.lt (.inr (.inl (by simp; omega)))).trans a2, a3.of_block (fun j e => hs.block j (a3.lt j e).2 (.inr (.inl (by have := (a3.lt j e).1; simp; omega)))), a4.ext hs.c (by simp; omega), a5.trans (hs.mono (by simp)), Nat.le_trans a6 hs.size⟩
theorem OwnS.allocR {base : Nat} {w : World} {v : Value} {l : List ByteArray} (h : OwnS base w v l) (o : Obj) : OwnS base (w.alloc o) v l := h.of_block (fun k e => Below.heap_alloc _ _ _ (h.lt k e).2)
/-- the reader is bad -/
theorem TxI.bad {n g k b0 : Nat} {bad : Bool} {lg : List Item} {base : Nat} {w : World} {l : List ByteArray} {W : World} (h : TxI n g k b0 bad lg base w l W) (hg : g < b0) (hb : b0 < base) (c : Bool) : TxI n g k b0 c lg base w l (W.setCell ⟨g, 1, none⟩ (.bool c)) := by
  obtain ⟨v, a1, a2, a3, a4, a5, a6⟩ := h
  obtain ⟨s1, s2⟩ := a4.set1 c
  exact ⟨v, (heap_set2 (by omega)).trans a1, (heap_set2 (by omega)).trans a2, a3.of_block (fun j e => heap_set2 (by have := (a3.lt j e).1; omega)), s1, a5.trans (s2.mono (by simp)), by rw [World.size_setCell]; exact a6⟩
/-- a text more -/
theorem TxI.app {n g k b0 b1 : Nat} {bad : Bool} {lg : List Item} {base : Nat} {w : World} {l l' : List ByteArray} {W W' : World} {v v' : Value} {o : Obj} (a1 : Boxed W b0 141 (.pointer (some ⟨g, 0, none⟩))) (a2 : Boxed W (b0 + 1) 27 v) (a3 : OwnS base W v l) (a4 : RdAt n W g lg bad) (a5 : Ext n [g, k] w W) (a6 : base ≤ W.heap.size)
    (ho : OwnS base W' v' l') (hg : (W.alloc o).grownBy W' v.ownBlock) (hb : g < b0 ∧ b0 + 1 < base ∧ w.heap.size = b0 ∧ n ≤ b0 ∧ k < base ∧ b1 < base ∧ k ≠ b0 + 1 ∧ b1 ≠ b0 + 1) :
    TxI n g k b0 bad lg base w l' (W'.setCell ⟨b0 + 1, 0, none⟩ v') ∧ KeptR n b1 k W (W'.setCell ⟨b0 + 1, 0, none⟩ v') ∧ KeepsOthers W (W'.setCell ⟨b0 + 1, 0, none⟩ v') := by
  have hsz : W.heap.size ≤ W'.heap.size := by have := hg.size; simp at this; omega
  have same : ∀ j, j < W.heap.size → v.ownBlock ≠ some j → W'.heap[j]? = W.heap[j]? := fun j hj hne =>
    (hg.block j (by simp; omega) (fun e => hne e.symm)).trans (Below.heap_alloc _ _ _ hj)
  have same2 : ∀ j, j < W.heap.size → v.ownBlock ≠ some j → j ≠ b0 + 1 → (W'.setCell ⟨b0 + 1, 0, none⟩ v').heap[j]? = W.heap[j]? := fun j hj hne h1 => (heap_set2 h1).trans (same j hj hne)
  have low : ∀ j, j < base → v.ownBlock ≠ some j := fun j hj e => by have := (a3.lt j e).1; omega
  have hsz2 : W.heap.size ≤ (W'.setCell ⟨b0 + 1, 0, none⟩ v').heap.size := by rw [World.size_setCell]; exact hsz
  have hrd : ∀ u xs, RdI n W u xs → RdI n (W'.setCell ⟨b0 + 1, 0, none⟩ v') u xs := fun u xs hr => RdI.keep hsz2 (fun j ob h1 h2 h3 => by
    refine (same2 j (Array.getElem?_eq_some_iff.1 h1).1 ?_ ?_).trans h1
    · rcases h3 with h3 | ⟨cs, rfl⟩
      · exact low j (by omega)
      · intro e
        obtain ⟨_, ⟨rfl, _⟩ | ⟨g', cap, cur, rfl, _, hgg, _⟩⟩ := a3
        · cases e
        · cases e; rw [hgg] at h1; simp at h1
    · rcases h3 with h3 | ⟨cs, rfl⟩
      · omega
      · intro e
        subst e
        rw [show W.heap[b0 + 1]? = _ from a2] at h1
        simp at h1) hr
  have hb1' : Boxed W' (b0 + 1) 27 v := (same _ a2.lt (low _ (by omega))).trans a2
  refine ⟨⟨v', (same2 b0 a1.lt (low _ (by omega)) (by omega)).trans a1, hb1'.set _, ho.of_block (fun j e => heap_set2 (by have := (ho.lt j e).1; omega)), ?_, ?_, Nat.le_trans a6 hsz2⟩, ⟨hsz2, fun ob _ => ⟨fun e => (same2 _ (Array.getElem?_eq_some_iff.1 e).1 (low _ (by omega)) (by omega)).trans e, fun e => (same2 _ (Array.getElem?_eq_some_iff.1 e).1 (low _ (by omega)) (by omega)).trans e⟩, hrd⟩, ⟨hsz2, fun j ob h1 h2 => ?_⟩⟩
  · have hgl := a4.lt
    obtain ⟨hn, p, c, h1, h2⟩ := a4
    exact ⟨hn, p, c, (same2 g hgl (low _ (by omega)) (by omega)).trans h1, hrd _ _ h2⟩
  · refine ⟨hg.os.trans a5.os, hg.tape.trans a5.tape, hg.output.trans a5.output, Nat.le_trans a5.size hsz2, fun j hj hc => ?_⟩
    exact (same2 j (Nat.lt_of_lt_of_le hj a5.size) (low _ (by omega)) (by omega)).trans (a5.block j hj hc)
  · refine (same2 j (Array.getElem?_eq_some_iff.1 h1).1 ?_ ?_).trans h1
    · intro e
      obtain ⟨o', ho', hc'⟩ := a3.cellsAt e
      rw [h1] at ho'; cases ho'; rw [h2] at hc'; cases hc'
    · intro e
      subst e
      rw [show W.heap[b0 + 1]? = _ from a2] at h1
      cases h1; cases h2
theorem KeptR.putObj {n b1 k : Nat} {W : World} {l : Nat} {o o' : Obj} (h : W.heap[l]? = some o) (hc : o.isCells = false) : KeptR n b1 k W (W.putObj l o') := by
  have hg := grownBy_putObj' W l o'
  have hx : ExtC n [] W (W.putObj l o') := ExtC.grown hg (fun r e => by cases e; exact ⟨o, h, hc⟩)
  exact ⟨hg.size, fun ob hcl => ⟨fun e => hx.block _ _ e hcl (.inr (.inl (by simp))), fun e => hx.block _ _ e hcl (.inr (.inl (by simp)))⟩, fun v l hr => hr.ext hx⟩
theorem KeptR.trans {n b1 k : Nat} {A B C : World} (h : KeptR n b1 k A B) (q : KeptR n b1 k B C) : KeptR n b1 k A C :=
  ⟨Nat.le_trans h.1 q.1, fun o hc => ⟨fun e => (q.2.1 o hc).1 ((h.2.1 o hc).1 e), fun e => (q.2.1 o hc).2 ((h.2.1 o hc).2 e)⟩, fun v l hr => q.2.2 v l (h.2.2 v l hr)⟩
theorem txsL_good {l : List Item} (h : ∀ y ∈ l, y.isList = false) : txsL l = l.map txtB ∧ txsB l = false := by
  induction l with
  | nil => exact ⟨rfl, rfl⟩
  | cons x r ih =>
    obtain ⟨h1, h2⟩ := ih (fun y hy => h y (List.mem_cons_of_mem _ hy))
    have hx := h x (by simp)
    refine ⟨by rw [txsL, hx, h1]; rfl, ?_⟩
    unfold txsB at h2 ⊢
    rw [List.any_cons, hx, h2]; rfl
theorem txsL_bad {l r : List Item} {y : Item} (h : ∀ z ∈ l, z.isList = false) (hy : y.isList = true) : txsL (l ++ y :: r) = l.map txtB ∧ txsB (l ++ y :: r) = true := by
  induction l with
  | nil => exact ⟨by rw [List.nil_append, txsL, hy]; rfl, by unfold txsB; rw [List.nil_append, List.any_cons, hy]; rfl⟩
  | cons x l ih =>
    obtain ⟨h1, h2⟩ := ih (fun y hy => h y (List.mem_cons_of_mem _ hy))
    have hx := h x (by simp)
    refine ⟨by rw [List.cons_append, txsL, hx, h1]; rfl, ?_⟩
    unfold txsB at h2 ⊢
    rw [List.cons_append, List.any_cons, hx, h2]; rfl

set_option maxRecDepth 100000 in
set_option maxHeartbeats 6400000 in
theorem rdTexts_any {n : Nat} {w : World} {g : Nat} {x : Item} {l : List Item} {b : Bool} (hg : RdAt n w g (x :: l) b) (hxl : x.list.length ≤ 1099511627776) :
    Calls Tryz.prog 60 #[.pointer (some ⟨g, 0, none⟩)] w fun e w' => ∃ V, e = .returned V ∧ Strs w' V (tsL x) ∧ (∀ j, V.ownBlock = some j → w.heap.size ≤ j) ∧ RdAt n w' g l (b || tsB x) ∧ Ext n [g] w w' := by
  have HXL := Lib.hid hxl
  clear hxl
  have hlt := hg.lt
  have hn := hg.ge
  refine (callsIn_wide (n := 9)).1 ?_
  refine callsIn_of_wp_marks Tryz.func60 rfl trivial ?_ rfl
  simp only [Tryz.ntmps60, List.size_toArray, List.length_cons, List.length_nil, Nat.reduceAdd, Nat.reduceSub, Array.replicate_succ, Array.replicate_zero, List.push_toArray, List.append_toArray, List.nil_append, List.cons_append]
  gi_wp2
  refine wpIn_scope_straight ?_
  gi_wp2
  obtain ⟨w2, hw2⟩ : ∃ W, ((w.alloc (.cells #[.pointer (some ⟨g, 0, none⟩)] 141)).alloc (.cells #[.slice none 0 0] 27)) = W := ⟨_, rfl⟩
  have hz2 : w2.heap.size = w.heap.size + 2 := by rw [← hw2]; simp
  have x0 : Boxed w2 w.heap.size 141 (.pointer (some ⟨g, 0, none⟩)) := by rw [← hw2]; exact (Boxed.new w _ _).alloc _
  have x1 : Boxed w2 (w.heap.size + 1) 27 (.slice none 0 0) := by
    rw [← hw2]
    have := Boxed.new (w.alloc (.cells #[.pointer (some ⟨g, 0, none⟩)] 141)) 27 (.slice none 0 0)
    rwa [World.size_alloc] at this
  have e2 : Ext n [] w w2 := by rw [← hw2]; exact ((Ext.refl _ _ _).alloc _).alloc _
  rw [hw2]
  clear hw2
  have e2d : Ext n [] w w2.drew := e2.then (Below.refl _ _).drew
  have H2 := Lib.hid (rdItem_any (hg.ext e2d.c (by simp)))
  have X0 := Lib.hid x0
  have X1 := Lib.hid x1
  have E2 := Lib.hid e2d
  have Z2 := Lib.hid hz2
  have hc2 := x0.cell
  clear x0 x1 e2 e2d hz2 hg
  rename_i K0 hK0
  refine wpIn_mono (Q := Exit.then K0 (fun _ _ _ => False)) (wpIn_wide.2 ?_) (fun e a W h => by cases e <;> first | exact h | exact h.elim)
  refine wp_region_held_drew (S := fun W => W.cell? ⟨w.heap.size, 0, none⟩ = some (.pointer (some ⟨g, 0, none⟩))) (by kernel_rfl) (hc2) (fun hHeld => ?_)
  refine wpAnyH_take (i := 0) (v := .pointer (some ⟨g, 0, none⟩)) rfl (by kernel_rfl) (by kernel_rfl) (by kernel_rfl) (fun _ _ _ h => h) (.inl ⟨by rfl, ?_⟩) (by assumption) ?_
  · intro w0 hSw
    go_simp
  simp only [Act.put, List.getElem_toArray, List.getElem_cons_zero, List.setIfInBounds_toArray, List.set_cons_zero, List.set_cons_succ]
  refine wpAnyH_take (i := 1) (v := .pointer (some ⟨g, 0, none⟩)) rfl (by kernel_rfl) (by kernel_rfl) (by kernel_rfl) (fun _ _ _ h => h) (.inl ⟨by rfl, ?_⟩) (by assumption) ?_
  · intro w0 hSw
    go_simp
  simp only [Act.put, List.getElem_toArray, List.getElem_cons_zero, List.getElem_cons_succ, List.setIfInBounds_toArray, List.set_cons_zero, List.set_cons_succ]
  refine wpAnyH_ready (rs := [2]) (by kernel_rfl) (by simp) ?_
  refine AllReadyH.cons rfl (fun K hK => ?_) AllReadyH.nil
  go_simp
  go_at_call 112
  refine H2.out.mono ?_
  rintro e w3 ⟨⟨px, cx, rfl, hx⟩, r3, e3⟩
  have x03 : Boxed w3 w.heap.size 141 (.pointer (some ⟨g, 0, none⟩)) := (e3.block _ (by have := Z2.out; show w.heap.size < w2.heap.size; omega) (.inr (.inl (by simp; omega)))).trans X0.out
  have H3 := Lib.hid (rdOpen_m1 r3 hx)
  have X03 := Lib.hid x03
  have E3 := Lib.hid e3
  clear x03 r3 hx e3
  refine hK.out _ _ (X03.out.cell) (fun hHeld => ?_)
  clear hK K
  try simp only [Act.put, List.getElem_toArray, List.getElem_cons_zero, List.getElem_cons_succ, List.setIfInBounds_toArray, List.set_cons_zero, List.set_cons_succ]
  refine wpAnyH_ready (rs := [3]) (by kernel_rfl) (by simp) ?_
  refine AllReadyH.cons rfl (fun K hK => ?_) AllReadyH.nil
  go_simp
  go_at_call 111
  refine H3.out.mono ?_
  rintro e w4 ⟨k, rfl, hk, rk, rg, e4⟩
  have x04 : Boxed w4 w.heap.size 141 (.pointer (some ⟨g, 0, none⟩)) := (e4.block _ X03.out.lt (.inr (.inl (by simp; omega)))).trans X03.out
  have X04 := Lib.hid x04
  have RK := Lib.hid rk
  have RG := Lib.hid rg
  have E4 := Lib.hid e4
  have HK := Lib.hid hk
  clear x04 rk rg e4 hk
  refine hK.out _ _ (X04.out.cell) (fun hHeld => ?_)
  clear hK K
  try simp only [Act.put, List.getElem_toArray, List.getElem_cons_zero, List.getElem_cons_succ, List.setIfInBounds_toArray, List.set_cons_zero, List.set_cons_succ]
  refine wpAnyH_take (i := 4) (v := .pointer (some ⟨k, 0, none⟩)) rfl (by kernel_rfl) (by kernel_rfl) (by kernel_rfl) (fun _ _ _ h => h) (.inl ⟨by rfl, ?_⟩) (by assumption) ?_
  · intro w0 hSw
    go_simp
  simp only [Act.put, List.getElem_toArray, List.getElem_cons_zero, List.getElem_cons_succ, List.setIfInBounds_toArray, List.set_cons_zero, List.set_cons_succ]
  refine wpAnyH_done (by kernel_rfl) ?_ 0
  gi_wp2
  refine wpIn_label ?_
  gi_wp2_with (refine ⟨trivial, ?_⟩; gi_at_call 113; refine (each_any Fence.wide _ trivial rfl k _).mono ?_; rintro e w' ⟨rfl, rfl⟩)
  have y0 : Boxed w4 w.heap.size 141 (.pointer (some ⟨g, 0, none⟩)) := X04.out
  have y1 : Boxed w4 (w.heap.size + 1) 27 (.slice none 0 0) := by
    have h3 : w3.heap[w.heap.size + 1]? = w2.drew.heap[w.heap.size + 1]? := E3.out.block _ (by have := Z2.out; show w.heap.size + 1 < w2.heap.size; omega) (.inr (.inl (by simp; omega)))
    have h4 : w4.heap[w.heap.size + 1]? = w3.heap[w.heap.size + 1]? := E4.out.block _ (by have := Z2.out; have := E3.out.size; have : w2.drew.heap.size = w2.heap.size := rfl; omega) (.inr (.inl (by simp; omega)))
    exact h4.trans (h3.trans X1.out)
  have hkw : w.heap.size + 2 ≤ k := by
    have h1 := HK.out
    have h2 := E3.out.size
    have h3 : w2.drew.heap.size = w.heap.size + 2 := Z2.out
    omega
  have hk4 : k < w4.heap.size := RK.out.lt
  have e04 : Ext n [g, k] w w4 := (E2.out.mono (by simp)).trans ((E3.out.mono (by simp)).trans (E4.out.mono (by simp)))
  obtain ⟨w5, hw5⟩ : ∃ W, w4.alloc (.cells #[.pointer (some ⟨k, 0, none⟩)] 141) = W := ⟨_, rfl⟩
  have hz5 : w4.heap.size < w5.heap.size := by rw [← hw5]; simp
  have bx : Boxed w5 w4.heap.size 141 (.pointer (some ⟨k, 0, none⟩)) := by rw [← hw5]; exact Boxed.new w4 _ _
  have e45 : Ext n [] w4 w5 := by rw [← hw5]; exact (Ext.refl _ _ _).alloc _
  rw [hw5]
  clear hw5
  have z0 : Boxed w5 w.heap.size 141 (.pointer (some ⟨g, 0, none⟩)) := (e45.block _ y0.lt (.inr (.inl (by simp)))).trans y0
  have z1 : Boxed w5 (w.heap.size + 1) 27 (.slice none 0 0) := (e45.block _ y1.lt (.inr (.inl (by simp)))).trans y1
  have rk5 := RK.out.ext e45.c (by simp)
  have rg5 := RG.out.ext e45.c (by simp)
  have e05 : Ext n [g, k] w w5 := e04.trans (e45.mono (by simp))
  obtain ⟨L, hL⟩ : ∃ L, opnL x (-1) = L := ⟨_, rfl⟩
  obtain ⟨b', hb'⟩ : ∃ v, (b || opnB x (-1)) = v := ⟨_, rfl⟩
  have hpost : (∀ (b2 : Bool) (T : List ByteArray), (b2 = (b' || txsB L) ∧ T = txsL L) → (T = tsL x ∧ b2 = (b || tsB x))) := by
    rintro b2 T ⟨rfl, rfl⟩
    unfold tsL tsB
    rw [hL, ← hb', Bool.or_assoc]
    exact ⟨rfl, rfl⟩
  have hLl : L.length ≤ 1099511627776 := by
    rw [← hL]
    unfold opnL
    cases opnB x (-1) with
    | true => simp
    | false => exact HXL.out
  have HLL := Lib.hid hLl
  clear hLl
  rw [hL] at rk5
  rw [hb'] at rg5
  have hI0 : TxI n g k w.heap.size b' l w5.heap.size w [] w5 := ⟨_, z0, z1, OwnS.nil _ _, rg5, e05, Nat.le_refl _⟩
  have HPost := Lib.hid hpost
  have RK5 := Lib.hid rk5
  have BX := Lib.hid bx
  clear hpost rk5 bx z0 z1 rg5 e05 e04 e45 y0 y1 hL hb' RK RG E3 E4 HK X0 X1 X03 X04 H2 H3
  refine wpIn_rangeFunc_X rfl (by omega) (gf := 179) (lb := #[.pointer (some ⟨w4.heap.size, 0, none⟩)]) rfl trivial (enters_of Tryz.func179 (by kernel_rfl) rfl)
    (encs := encR) (Step := Ext n [k]) (Good := fun pre y _ W1 => RdI n W1 y.2 y.1.list ∧ ∃ r, L = pre.map Prod.fst ++ y.1 :: r) (Kp := KeptR n w4.heap.size k) (S := fun ys => ys.map Prod.fst = L) (Sp := fun _ => True) (w0 := w5)
    (fun l' J Jx W hW hJs _ hY h0 => (each_body _ (by omega) l' n w4.heap.size k L J Jx hJs (fun pre y W1 hj hs hr => hY pre y W1 W1 hj (Ext.refl _ _ _) ⟨hs, hr⟩) W ((hW.block _ BX.out.lt).trans BX.out) (RK5.out.ext (Ext.of_below (S := []) hW).c (by simp)) (by omega) h0).mono
      (fun e W' ⟨h1, h2⟩ => ⟨h1, h2.imp id (fun ⟨pre, h⟩ => ⟨pre, trivial, h⟩)⟩))
    KeptR.trans (fun W l' o o' _ ho hc _ => KeptR.putObj ho hc) (Below.refl _ _) (fun _ => rfl)
    (fun A B' j o hst hj hA ho => (hst.block j (Array.getElem?_eq_some_iff.1 hA).1 (.inr (.inl (by simp; omega)))).trans hA)
    (fun pre W => (∀ y ∈ pre, y.1.isList = false) ∧ TxI n g k w.heap.size b' l w5.heap.size w (pre.map (fun y => txtB y.1)) W)
    (fun c pre W => c = .exit 0 ∧ ∃ p y r, L = p ++ y :: r ∧ (∀ z ∈ p, z.isList = false) ∧ y.isList = true ∧ TxI n g k w.heap.size true l w5.heap.size w (p.map txtB) W)
    (fun pre y a' W => ∃ gx, a' = { tmps := #[.pointer (some ⟨g, 0, none⟩), .pointer (some ⟨w.heap.size, 0, none⟩), .slice none 0 0, .pointer (some ⟨w.heap.size + 1, 0, none⟩), .pointer (some ⟨k, 0, none⟩), .pointer (some ⟨gx, 0, none⟩), .pointer (some ⟨g, 0, none⟩), .pointer (some ⟨g, 0, none⟩),
      .agg #[.bool x.isList, .string (txtB x), .slice px x.list.length cx], .pointer (some ⟨k, 0, none⟩), .pointer (some ⟨k, 0, none⟩), .func (.func 179) #[] #[.pointer (some ⟨w4.heap.size, 0, none⟩)], .agg #[.bool y.1.isList, .string (txtB y.1), y.2],
      undef, undef, undef, undef, undef, undef, undef, undef, undef, undef, undef], defers := [] } ∧ W.heap[gx]? = some (.cells #[.bool y.1.isList, .string (txtB y.1), y.2] 118 (0, 0)) ∧ w5.heap.size ≤ gx ∧
      (∀ z ∈ pre, z.1.isList = false) ∧ TxI n g k w.heap.size b' l w5.heap.size w (pre.map (fun z => txtB z.1)) W ∧ ∃ r, L = pre.map Prod.fst ++ y.1 :: r)
    ?own ?ownx1 ?ownx ?step ?stepx ⟨by simp, hI0⟩ ?assign ?body ?done ?stop
  case own =>
    rintro pre W W' row ⟨h1, h2⟩ hg' hr
    exact ⟨h1, h2.grown hg' (fun r e => ⟨by have := (hr r e).1; omega, (hr r e).2⟩)⟩
  case ownx1 =>
    rintro c pre W W' row ⟨h1, p, y, r, h2, h3, h4, h5⟩ hg' hr
    exact ⟨h1, p, y, r, h2, h3, h4, h5.grown hg' (fun r e => ⟨by have := (hr r e).1; omega, (hr r e).2⟩)⟩
  case ownx =>
    rintro pre y a' _ W W' row ⟨gx, h1, h2, h3, h4, h5, h6⟩ hg' hr
    refine ⟨gx, h1, ?_, h3, h4, h5.grown hg' (fun r e => ⟨by have := (hr r e).1; omega, (hr r e).2⟩), h6⟩
    exact (ExtC.grown (n := n) (S := []) hg' (fun r e => (hr r e).2)).block gx _ h2 rfl (.inr (.inl (by simp)))
  case step =>
    rintro pre A B' ⟨h1, h2⟩ hst
    exact ⟨h1, h2.step hst (by omega)⟩
  case stepx =>
    rintro c pre A B' ⟨h1, p, y, r, h2, h3, h4, h5⟩ hst
    exact ⟨h1, p, y, r, h2, h3, h4, h5.step hst (by omega)⟩
  case assign =>
    rintro l' pre ⟨y, yv⟩ Wa W K ⟨hnl, hI⟩ hst ⟨hg1, hg2⟩ hK'
    have hI2 := hI.step hst (by omega)
    obtain ⟨py, cy, hyv⟩ := ReadsIn.form hg1
    dsimp only at hyv
    subst hyv
    simp only [encR]
    have HK2 := Lib.hid hK'
    have HI2 := Lib.hid hI2
    have HG2 := Lib.hid hg2
    have HNL := Lib.hid hnl
    have HST := Lib.hid hst
    clear hK' hI2 hI hg1 hg2 hnl hst
    gi_wp2
    have hgr := World.grownBy_alloc W (.cells #[.bool y.isList, .string (txtB y), .slice py y.list.length cy] 118) none
    have hx : Ext n [] W (W.alloc (.cells #[.bool y.isList, .string (txtB y), .slice py y.list.length cy] 118)) := (Ext.refl _ _ _).alloc _
    refine HK2.out _ _ ((KeepsOthers.alloc _ _).from _) ⟨hx.size, fun ob hc => ⟨fun e => hx.c.block _ _ e hc (.inr (.inl (by simp))), fun e => hx.c.block _ _ e hc (.inr (.inl (by simp)))⟩, fun v u hr => hr.ext hx.c⟩
      ⟨W.heap.size, rfl, World.alloc_heap_new W _, ?_, HNL.out, HI2.out.grown hgr (fun r e => by cases e), HG2.out⟩
    obtain ⟨_, _, _, _, _, _, h6⟩ := HI2.out
    exact h6
  case body =>
    rintro l' pre ⟨y, yv⟩ a' W hl ⟨r, hr⟩ ⟨gx, rfl, hbx, hgx, hnl, hI, rr, hrr⟩
    have hHI := hI
    obtain ⟨v, a1, a2, a3, a4, a5, a6⟩ := hI
    have c0 := a1.cell
    have c1 := a2.cell
    have f1 := a2.frozen
    obtain ⟨d1, g1⟩ := a4.cells
    have k0 : W.cell? ⟨gx, 0, none⟩ = some (.bool y.isList) := by rw [World.cell?, hbx]; rfl
    have k1 : W.cell? ⟨gx, 1, none⟩ = some (.string (txtB y)) := by rw [World.cell?, hbx]; rfl
    have hgl := a4.lt
    have hxl : gx < W.heap.size := (Array.getElem?_eq_some_iff.1 hbx).1
    have HHI := Lib.hid hHI
    have HNL := Lib.hid hnl
    have HRR := Lib.hid hrr
    clear hHI hnl hrr hbx hr
    cases hyl : y.isList with
    | true =>
      rw [hyl] at k0
      have HYL := Lib.hid hyl
      clear hyl a1 a2 a3 a4 a5 c1 f1 k1
      dsimp only
      gi_wp2
      refine ⟨(KeepsOthers.setCell _ _ _).from _, rfl, pre.map Prod.fst, y, ⟨rr, HRR.out⟩, ?_, HYL.out, ?_⟩
      · intro z hz
        obtain ⟨q, hq, rfl⟩ := List.mem_map.1 hz
        exact HNL.out q hq
      · have := HHI.out.bad hlt (by omega) true
        rw [List.map_map]
        exact this
    | false =>
      rw [hyl] at k0
      have HYL := Lib.hid hyl
      have A1 := Lib.hid a1
      have A2 := Lib.hid a2
      have A3 := Lib.hid a3
      have A4 := Lib.hid a4
      have A5 := Lib.hid a5
      have A6 := Lib.hid a6
      have hln : pre.length ≤ 1099511627775 := by
        have := HLL.out
        rw [HRR.out] at this
        simp at this
        omega
      have HLN := Lib.hid hln
      clear hyl a1 a2 a3 a4 a5 a6 d1 g1 c0 hln
      dsimp only
      gi_wp2_with (gi_at_builtin; refine wpListIn_appendT rfl _ _ 27 rfl w5.heap.size Tryz.underlying27 infoStr _ (pre.map (fun z => txtB z.1)) rfl (A3.out.allocR _) ⟨W.heap.size, 0, none⟩ 1 (txtB y) rfl ?c0 ?c1 ?c2 ?_)
      case c1 => exact HLN.out
      case c2 => have := A6.out; simp; omega
      intro v' w' ho' hg'
      obtain ⟨q1, q2, q3⟩ := TxI.app (b1 := w4.heap.size) A1.out A2.out A3.out A4.out A5.out A6.out ho' hg' (by omega)
      have hb2 : Boxed w' (w.heap.size + 1) 27 v := by
        have h1 : (W.alloc (.cells #[.string (txtB y)] 9)).heap[w.heap.size + 1]? = W.heap[w.heap.size + 1]? := Below.heap_alloc _ _ _ A2.out.lt
        refine ((hg'.block (w.heap.size + 1) (by have := A2.out.lt; simp; omega) (fun e => ?_)).trans h1).trans A2.out
        have := (A3.out.lt _ e.symm).1
        omega
      have c2 := hb2.cell
      have f2 := hb2.frozen
      have hl2 := hb2.lt
      obtain ⟨pv, cv, rfl⟩ := ho'.form
      have hlen : (pre.map (fun z => txtB z.1) ++ [txtB y]).length = pre.length + 1 := by simp
      rw [hlen] at q1 q2 q3
      clear hlen
      have Q1 := Lib.hid q1
      have Q2 := Lib.hid q2
      have Q3 := Lib.hid q3
      clear q1 q2 q3 ho' hg' hb2 c1 f1 k0 k1
      gi_wp2
      refine ⟨Q3.out.from _, Q2.out, ?_, ?_⟩
      · intro z hz
        rcases List.mem_append.1 hz with hz | hz
        · exact HNL.out z hz
        · simp at hz; subst hz; exact HYL.out
      · have := Q1.out
        rw [List.map_append]
        exact this
  case done =>
    rintro D ys W hD hS ⟨hnl, v, a1, a2, a3, a4, a5, a6⟩ hK'
    have c1 := a2.cell
    have hl1 := a2.lt
    have hnl' : ∀ z ∈ L, z.isList = false := fun z hz => by
      rw [← hS] at hz
      obtain ⟨q, hq, rfl⟩ := List.mem_map.1 hz
      exact hnl q hq
    obtain ⟨t1, t2⟩ := txsL_good hnl'
    obtain ⟨p1, p2⟩ := HPost.out b' (L.map txtB) ⟨by rw [t2, Bool.or_false], t1.symm⟩
    have hT : ys.map (fun z => txtB z.1) = tsL x := by rw [← p1, ← hS, List.map_map]; rfl
    rw [hT] at a3
    rw [p2] at a4
    have A3 := Lib.hid a3
    have A4 := Lib.hid a4
    have A5 := Lib.hid a5
    clear a1 a2 a3 a4 a5 a6 hnl hnl' t1 t2 p1 p2 hT hS
    gi_wp2
    refine ⟨by simp, .inl ⟨_, _, rfl, run_takeDeferred hK', ?_⟩⟩
    have hgr := grownBy_putObj' W D (.deferred none)
    have hx : ExtC n [] W (W.putObj D (.deferred none)) := ExtC.grown hgr (fun r e => by cases e; exact ⟨_, hK', rfl⟩)
    exact ⟨_, results_tmp rfl _ _ _, v, rfl, A3.out.strs.ext hx, (fun j e => by have := (A3.out.lt j e).1; omega), A4.out.ext hx (by simp), (A5.out.grown hgr (fun r e => by cases e; omega)).drop (by simp; omega)⟩
  case stop =>
    rintro D c pre W hD _ ⟨rfl, p, y, r, hrr, hnl, hyl, v, a1, a2, a3, a4, a5, a6⟩ hK'
    have c1 := a2.cell
    have hl1 := a2.lt
    obtain ⟨t1, t2⟩ := txsL_bad (r := r) hnl hyl
    rw [← hrr] at t1 t2
    obtain ⟨p1, p2⟩ := HPost.out true (p.map txtB) ⟨by rw [t2, Bool.or_true], t1.symm⟩
    rw [p1] at a3
    rw [p2] at a4
    have A3 := Lib.hid a3
    have A4 := Lib.hid a4
    have A5 := Lib.hid a5
    clear a1 a2 a3 a4 a5 a6 hnl hyl t1 t2 p1 p2 hrr
    gi_wp2
    refine ⟨by simp, .inl ⟨_, _, rfl, run_takeDeferred hK', ?_⟩⟩
    have hgr := grownBy_putObj' W D (.deferred none)
    have hx : ExtC n [] W (W.putObj D (.deferred none)) := ExtC.grown hgr (fun r e => by cases e; exact ⟨_, hK', rfl⟩)
    exact ⟨_, results_tmp rfl _ _ _, v, rfl, A3.out.strs.ext hx, (fun j e => by have := (A3.out.lt j e).1; omega), A4.out.ext hx (by simp), (A5.out.grown hgr (fun r e => by cases e; omega)).drop (by simp; omega)⟩
end Go.Proofs.YtpfmdhcmhcoddaaGreatDoor
/- Contract of a reader's light. -/
namespace Go.Proofs.YtpfmdhcmhcoddaaGreatDoor
open Go.RowKit Go.Shelf Go.Lib
attribute [local go_sem] Oper.semAt_some

/-- one block alone turns -/
structure Upon (q : Nat) (W W' : World) : Prop where
  os : W'.os = W.os
  tape : W'.tape = W.tape
  output : W'.output = W.output
  size : W'.heap.size = W.heap.size
  block : ∀ j, j ≠ q → W'.heap[j]? = W.heap[j]?
theorem Upon.set (W : World) (q j : Nat) (v : Value) : Upon q W (W.setCell ⟨q, j, none⟩ v) := ⟨rfl, rfl, rfl, World.size_setCell _ _ _, fun _ h => heap_set2 h⟩
theorem Upon.trans {q : Nat} {A B C : World} (h : Upon q A B) (k : Upon q B C) : Upon q A C :=
  ⟨k.os.trans h.os, k.tape.trans h.tape, k.output.trans h.output, k.size.trans h.size, fun j hj => (k.block j hj).trans (h.block j hj)⟩
theorem Upon.sets (q : Nat) : ∀ (vs : List Value) (o : Nat) (W : World), Upon q W (W.setCells q o vs)
  | [], _, _ => ⟨rfl, rfl, rfl, rfl, fun _ _ => rfl⟩
  | v :: vs, o, W => (Upon.set W q o v).trans (Upon.sets q vs (o + 1) _)
/-- a block of cells, whole -/
def HasCells (W : World) (q : Nat) (cs : List Value) (t : TypeId) : Prop := W.heap[q]? = some (.cells cs.toArray t (0, 0))
/-- cells written one behind the other -/
def spl (cs : List Value) : Nat → List Value → List Value
  | _, [] => cs
  | o, v :: r => spl (cs.set o v) (o + 1) r
theorem HasCells.set {W : World} {q : Nat} {cs : List Value} {t : TypeId} (h : HasCells W q cs t) (j : Nat) (v : Value) : HasCells (W.setCell ⟨q, j, none⟩ v) q (cs.set j v) t := by
  show (W.heap.modify q _)[q]? = _
  rw [Array.getElem?_modify, if_pos rfl, show W.heap[q]? = _ from h]
  simp
theorem HasCells.sets {q : Nat} {t : TypeId} : ∀ (vs : List Value) (o : Nat) (W : World) (cs : List Value), HasCells W q cs t → HasCells (W.setCells q o vs) q (spl cs o vs) t
  | [], _, _, _, h => h
  | v :: vs, o, _, _, h => HasCells.sets vs (o + 1) _ _ (h.set o v)
theorem HasCells.cell {W : World} {q : Nat} {cs : List Value} {t : TypeId} (h : HasCells W q cs t) {j : Nat} {v : Value} (hj : cs[j]? = some v) : W.cell? ⟨q, j, none⟩ = some v := by
  rw [World.cell?, show W.heap[q]? = _ from h]
  simpa using hj
theorem HasCells.frozen {W : World} {q : Nat} {cs : List Value} {t : TypeId} (h : HasCells W q cs t) (j : Nat) : W.frozen? ⟨q, j, none⟩ = false := by
  rw [World.frozen?, show W.heap[q]? = _ from h]; simp
theorem HasCells.lt {W : World} {q : Nat} {cs : List Value} {t : TypeId} (h : HasCells W q cs t) : q < W.heap.size := (Array.getElem?_eq_some_iff.1 h).1
theorem HasCells.range {W : World} {q : Nat} {cs : List Value} {t : TypeId} (h : HasCells W q cs t) : W.rangeAt q 0 cs := fun j v hj => by rw [Nat.zero_add]; exact h.cell hj
theorem HasCells.there {W : World} {q : Nat} {cs : List Value} {t : TypeId} (h : HasCells W q cs t) (o k : Nat) (hk : o + k ≤ cs.length) : W.there q o k := fun j hj =>
  ⟨by rw [h.cell (List.getElem?_eq_getElem (by omega))]; rfl, h.frozen _⟩
theorem HasCells.new (w : World) (cs : List Value) (t : TypeId) : HasCells (w.alloc (.cells cs.toArray t)) w.heap.size cs t := World.alloc_heap_new w _
theorem HasCells.upon {W W' : World} {q q' : Nat} {cs : List Value} {t : TypeId} (h : HasCells W q cs t) (hu : Upon q' W W') (hne : q ≠ q') : HasCells W' q cs t := (hu.block q hne).trans h
theorem HasCells.not_rd {W : World} {q : Nat} {cs : List Value} {t : TypeId} (h : HasCells W q cs t) (ht : t ≠ 147) : ¬ IsRd W q := fun ⟨p, n, c, b, e⟩ => by
  rw [show W.heap[q]? = _ from h] at e
  simp only [rdObj, Option.some.injEq, Obj.cells.injEq] at e
  exact ht e.2.1
theorem HasCells.ext {n : Nat} {S : List Nat} {W W' : World} {q : Nat} {cs : List Value} {t : TypeId} (h : HasCells W q cs t) (he : Ext n S W W') (ht : t ≠ 147) : HasCells W' q cs t := (he.block q h.lt (.inr (.inr (h.not_rd ht)))).trans h
theorem RdI.upon {n : Nat} {W W' : World} {q : Nat} {cs : List Value} {t : TypeId} (h : HasCells W q cs t) (ht : t ≠ 118) (hn : n ≤ q) (hu : Upon q W W') {v : Value} {l : List Item} (hr : RdI n W v l) : RdI n W' v l :=
  RdI.keep (Nat.le_of_eq hu.size.symm) (fun j o h1 h2 h3 => by
    refine (hu.block j (fun e => ?_)).trans h1
    subst e
    rcases h3 with h3 | ⟨cs', rfl⟩
    · omega
    · rw [show W.heap[j]? = _ from h] at h1
      simp only [Option.some.injEq, Obj.cells.injEq] at h1
      exact ht h1.2.1) hr
theorem RdAt.upon {n : Nat} {W W' : World} {q : Nat} {cs : List Value} {t : TypeId} (h : HasCells W q cs t) (ht : t ≠ 118) (hn : n ≤ q) (hu : Upon q W W') {g : Nat} {l : List Item} {b : Bool} (hr : RdAt n W g l b) (hne : g ≠ q) : RdAt n W' g l b := by
  obtain ⟨h1, p, c, h2, h3⟩ := hr
  exact ⟨h1, p, c, (hu.block g hne).trans h2, h3.upon h ht hn hu⟩
theorem Strs.upon {W W' : World} {q : Nat} {v : Value} {l : List ByteArray} (hs : Strs W v l) (hu : Upon q W W') (hne : v.ownBlock ≠ some q) : Strs W' v l := by
  obtain ⟨p, c, rfl, hc, hs⟩ := hs
  refine ⟨p, c, rfl, hc, ?_⟩
  rcases hs with hs | ⟨bk, o, rfl, hk, hs⟩
  · exact .inl hs
  · exact .inr ⟨bk, o, rfl, by rw [hu.size]; exact hk, fun j x hx => (World.cell?_of_block (a := ⟨bk, o + j, none⟩) (hu.block bk (fun e => hne (by rw [← e]; rfl)))).trans (hs j x hx)⟩
theorem Strs.upon_new {w3 W W' : World} {q : Nat} {v : Value} {l : List ByteArray} (hs : Strs W v l) (h0 : Strs w3 v l) (hu : Upon q W W') (hq : w3.heap.size ≤ q) : Strs W' v l := by
  obtain ⟨p, c, rfl, hc, hs⟩ := hs
  refine ⟨p, c, rfl, hc, ?_⟩
  rcases hs with hs | ⟨bk, o, rfl, hk, hs⟩
  · exact .inl hs
  · obtain ⟨p', c', e', _, h0⟩ := h0
    cases e'
    rcases h0 with h0 | ⟨bk', o', e2, hk', _⟩
    · exact .inl h0
    · cases e2
      exact .inr ⟨bk, o, rfl, by rw [hu.size]; exact hk, fun j x hx => (World.cell?_of_block (a := ⟨bk, o + j, none⟩) (hu.block bk (by omega))).trans (hs j x hx)⟩
theorem Ext.upon {n : Nat} {S : List Nat} {w W W' : World} {q : Nat} (h : Ext n S w W) (hu : Upon q W W') (hq : w.heap.size ≤ q) : Ext n S w W' :=
  ⟨hu.os.trans h.os, hu.tape.trans h.tape, hu.output.trans h.output, by rw [hu.size]; exact h.size, fun k hk hc => (hu.block k (by omega)).trans (h.block k hk hc)⟩
/-- the next operation is a load of a variable of the type T -/
theorem load_gate {P : Program} {ops : Array Oper} {Q : Exit → Act → World → Prop} {rest : List Oper} {a : Act} {w : World} {d : Option Tmp} {x : Operand} {ty : TypeId} {pos : String} {af : Array Edge} {g : Option (Nat × Bool)} (T : TypeId)
    (h : wpList P ops Q (Oper.mk d (Op.load T x) ty pos af g :: rest) a w) : wpList P ops Q (Oper.mk d (Op.load T x) ty pos af g :: rest) a w := h
/-- the next operation is a store of a variable of the type T -/
theorem store_gate {P : Program} {ops : Array Oper} {Q : Exit → Act → World → Prop} {rest : List Oper} {a : Act} {w : World} {d : Option Tmp} {x y : Operand} {ty : TypeId} {pos : String} {af : Array Edge} {g : Option (Nat × Bool)} (T : TypeId)
    (h : wpList P ops Q (Oper.mk d (Op.store T x y) ty pos af g :: rest) a w) : wpList P ops Q (Oper.mk d (Op.store T x y) ty pos af g :: rest) a w := h
theorem results_cells {fn : Func} {p : Tmp} {ty : TypeId} (h : fn.results = #[.cell p ty]) (tmps : Array Value) (w : World) (g : Nat) (cs : List Value) (d : TypeDesc) (hp : tmps.getD p undef = .pointer (some ⟨g, 0, none⟩)) (hc : w.rangeAt g 0 cs)
    (hu : Tryz.prog.underlying ty = some d) (hd : d.isRow = true) (hi : (Tryz.prog.info? ty).map (·.size) = some cs.length) : (results fn tmps).run Tryz.prog w = .ok (.agg cs.toArray) w := by
  have hp' : tmps[p]?.getD undef = .pointer (some ⟨g, 0, none⟩) := by simpa using hp
  simp [results, h, hp', asAddr, run_loadVar_mid w g 0 ty cs d hc hu hd hi]
theorem infoLight : (Tryz.prog.info? 40).map (·.size) = some 9 := by kernel_rfl
/-- what light holds between two fields: g is the reader, k1, kh, kx those that it opened, q the variable -/
structure LtS (n g k1 kh kx q : Nat) (l l1 lh lx : List Item) (bg b1 : Bool) (cs : List Value) (w W : World) : Prop where
  rg : RdAt n W g l bg
  rk1 : RdAt n W k1 l1 b1
  rkh : RdAt n W kh lh false
  rkx : RdAt n W kx lx false
  cq : HasCells W q cs 40
  cp : HasCells W w.heap.size lightZ 40
  ex : Ext n [g] w W
def LtD (n g k1 kh kx q : Nat) (w : World) : Prop := n ≤ g ∧ g < w.heap.size ∧ w.heap.size + 1 ≤ k1 ∧ k1 < kh ∧ kh < kx ∧ kx < q
theorem LtS.stepH {n g k1 kh kx q : Nat} {l l1 lh lx l' : List Item} {bg bg' b1 : Bool} {cs : List Value} {w W W' : World} (D : LtD n g k1 kh kx q w) (S : LtS n g k1 kh kx q l l1 lh lx bg b1 cs w W)
    (r1 : RdAt n W' kh l' false) (r2 : RdAt n W' g l bg') (e : Ext n [kh, g] W W') : LtS n g k1 kh kx q l l1 l' lx bg' b1 cs w W' :=
  have ⟨_, _, _, _, _, _⟩ := D
  ⟨r2, S.rk1.ext e.c (by simp; omega), r1, S.rkx.ext e.c (by simp; omega), S.cq.ext e (by decide), S.cp.ext e (by decide), ((S.ex.mono (S' := [kh, g]) (by simp)).trans e).drop (by simp; omega)⟩
theorem LtS.stepX {n g k1 kh kx q : Nat} {l l1 lh lx l' : List Item} {bg bg' b1 : Bool} {cs : List Value} {w W W' : World} (D : LtD n g k1 kh kx q w) (S : LtS n g k1 kh kx q l l1 lh lx bg b1 cs w W)
    (r1 : RdAt n W' kx l' false) (r2 : RdAt n W' g l bg') (e : Ext n [kx, g] W W') : LtS n g k1 kh kx q l l1 lh l' bg' b1 cs w W' :=
  have ⟨_, _, _, _, _, _⟩ := D
  ⟨r2, S.rk1.ext e.c (by simp; omega), S.rkh.ext e.c (by simp; omega), r1, S.cq.ext e (by decide), S.cp.ext e (by decide), ((S.ex.mono (S' := [kx, g]) (by simp)).trans e).drop (by simp; omega)⟩
theorem LtS.stepT {n g k1 kh kx q : Nat} {l l1 l1' lh lx : List Item} {bg b1 b1' : Bool} {cs : List Value} {w W W' : World} (D : LtD n g k1 kh kx q w) (S : LtS n g k1 kh kx q l l1 lh lx bg b1 cs w W)
    (r1 : RdAt n W' k1 l1' b1') (e : Ext n [k1] W W') : LtS n g k1 kh kx q l l1' lh lx bg b1' cs w W' :=
  have ⟨_, _, _, _, _, _⟩ := D
  ⟨S.rg.ext e.c (by simp; omega), r1, S.rkh.ext e.c (by simp; omega), S.rkx.ext e.c (by simp; omega), S.cq.ext e (by decide), S.cp.ext e (by decide), ((S.ex.mono (S' := [k1, g]) (by simp)).trans (e.mono (by simp))).drop (by simp; omega)⟩
theorem LtS.store {n g k1 kh kx q : Nat} {l l1 lh lx : List Item} {bg b1 : Bool} {cs : List Value} {w W : World} (D : LtD n g k1 kh kx q w) (S : LtS n g k1 kh kx q l l1 lh lx bg b1 cs w W) (j : Nat) (v : Value) :
    LtS n g k1 kh kx q l l1 lh lx bg b1 (cs.set j v) w (W.setCell ⟨q, j, none⟩ v) :=
  have ⟨_, _, _, _, _, _⟩ := D
  have hu := Upon.set W q j v
  ⟨S.rg.upon S.cq (by decide) (by omega) hu (by omega), S.rk1.upon S.cq (by decide) (by omega) hu (by omega), S.rkh.upon S.cq (by decide) (by omega) hu (by omega), S.rkx.upon S.cq (by decide) (by omega) hu (by omega), S.cq.set j v, S.cp.upon hu (by omega), S.ex.upon hu (by omega)⟩
set_option maxRecDepth 100000 in
set_option maxHeartbeats 12800000 in
theorem rdLight_any {n : Nat} {w : World} {g : Nat} {x : Item} {l : List Item} {b : Bool} (hg : RdAt n w g (x :: l) b) (hxl : (li x 2).list.length ≤ 1099511627776) :
    Calls Tryz.prog 58 #[.pointer (some ⟨g, 0, none⟩)] w fun e w' => ∃ p c, e = .returned (.agg (lightC x (.slice p (tsL (li x 2)).length c)).toArray) ∧ Strs w' (.slice p (tsL (li x 2)).length c) (tsL (li x 2)) ∧ (∀ a, p = some a → w.heap.size < a.block) ∧ RdAt n w' g l (b || lightB x) ∧ Ext n [g] w w' := by
  have hn := hg.ge
  have hlt := hg.lt
  obtain ⟨i0, i1, i2, hi⟩ := opn3 x
  obtain ⟨h0, h1, h2, h3, h4, hh⟩ := opn5 i0
  obtain ⟨y0, y1, y2, hy⟩ := opn3 i1
  have q0 : li x 0 = i0 := by unfold li; rw [hi]; rfl
  have q1 : li x 1 = i1 := by unfold li; rw [hi]; rfl
  have q2 : li x 2 = i2 := by unfold li; rw [hi]; rfl
  have hC : ∀ V, lightC x V = [.int .u64 (numV h0), .int .u64 (numV h1), .string (txtB h2), .string (txtB h3), .string (txtB h4), .string (txtB y0), .string (txtB y1), .int .u64 (numV y2), V] := fun V => by
    unfold lightC lh ly
    rw [q0, q1, hh, hy]
    rfl
  have hB : lightB x = (opnB x 3 || numB h0 || numB h1 || h2.isList || h3.isList || h4.isList || y0.isList || y1.isList || numB y2 || (opnB i0 5 || opnB i1 3 || tsB i2)) := by
    unfold lightB lightB0 lh ly
    rw [q0, q1, q2, hh, hy]
    rfl
  rw [q2] at hxl ⊢
  rw [hB]
  simp only [hC]
  have HI := Lib.hid hi
  have HH := Lib.hid hh
  have HY := Lib.hid hy
  have HXL := Lib.hid hxl
  obtain ⟨w0, hw0⟩ : ∃ W, w.alloc (.cells lightZ.toArray 40) = W := ⟨_, rfl⟩
  have e0 : Ext n [] w w0 := by rw [← hw0]; exact (Ext.refl _ _ _).alloc _
  have p0 : HasCells w0 w.heap.size lightZ 40 := by rw [← hw0]; exact HasCells.new w _ _
  have g0 := hg.ext e0.c (by simp)
  have hz0 : w.heap.size < w0.heap.size := by rw [← hw0]; simp
  have HW0 := Lib.hid hw0
  clear hi hh hy q0 q1 q2 hC hB hxl hg hw0
  go_enter Tryz.func58, Tryz.ntmps58
  go_wp2_with fail
  rw [show w.alloc (.cells #[.int .u64 0, .int .u64 0, .string ⟨#[]⟩, .string ⟨#[]⟩, .string ⟨#[]⟩, .string ⟨#[]⟩, .string ⟨#[]⟩, .int .u64 0, .slice none 0 0] 40) = w0 from HW0.out]
  refine (rdItem_any g0).mono ?_
  rintro e w1 ⟨⟨p1, c1, rfl, x1⟩, g1, e1⟩
  go_wp2_with fail
  refine (rdOpen_3 g1 x1).mono ?_
  rintro e w2 ⟨k1, rfl, hk1, r2, g2, e2⟩
  rw [HI.out] at r2
  go_wp2_with fail
  refine (rdItem_any r2).mono ?_
  rintro e w3 ⟨⟨p3, c3, rfl, x3⟩, r3, e3⟩
  go_wp2_with fail
  refine (rdOpen_5 r3 x3).mono ?_
  rintro e w4 ⟨kh, rfl, hkh, h4', r4, e4⟩
  rw [HH.out] at h4'
  go_wp2_with fail
  refine (rdItem_any r4).mono ?_
  rintro e w5 ⟨⟨p5, c5, rfl, x5⟩, r5, e5⟩
  go_wp2_with fail
  refine (rdOpen_3 r5 x5).mono ?_
  rintro e w6 ⟨kx, rfl, hkx, x6, r6, e6⟩
  rw [HY.out] at x6
  have z1 := e1.size
  have z2 := e2.size
  have z3 := e3.size
  have z4 := e4.size
  have z5 := e5.size
  have z6 := e6.size
  have u1 := r2.lt
  have u2 := h4'.lt
  have u3 := x6.lt
  have D : LtD n g k1 kh kx w6.heap.size w := ⟨hn, hlt, by omega, by omega, by omega, by omega⟩
  have S : LtS n g k1 kh kx w6.heap.size l [i2] [h0, h1, h2, h3, h4] [y0, y1, y2] (b || opnB x 3) ((false || opnB i0 5) || opnB i1 3) lightZ w (w6.alloc (.cells lightZ.toArray 40)) := by
    have f3 : Ext n [] w6 (w6.alloc (.cells lightZ.toArray 40)) := (Ext.refl _ _ _).alloc _
    have f26 : Ext n [k1] w2 w6 := e3.trans (e4.trans (e5.trans e6))
    have f46 : Ext n [k1] w4 w6 := e5.trans e6
    refine ⟨(g2.ext f26.c (by simp; omega)).ext f3.c (by simp), r6.ext f3.c (by simp), (h4'.ext f46.c (by simp; omega)).ext f3.c (by simp), x6.ext f3.c (by simp), HasCells.new _ _ _, ?_, ?_⟩
    · exact (((p0.ext e1 (by decide)).ext e2 (by decide)).ext f26 (by decide)).ext f3 (by decide)
    · have t1 : Ext n [g, k1] w w6 := (e0.mono (by simp)).trans ((e1.mono (by simp)).trans ((e2.mono (by simp)).trans (f26.mono (by simp))))
      exact (t1.trans (f3.mono (by simp))).drop (by simp; omega)
  obtain ⟨q, hq⟩ : ∃ q, w6.heap.size = q := ⟨_, rfl⟩
  rw [hq] at D S
  obtain ⟨W0, hW0⟩ : ∃ W, w6.alloc (.cells lightZ.toArray 40) = W := ⟨_, rfl⟩
  rw [hW0] at S
  have HW1 := Lib.hid hW0
  have HQ := Lib.hid hq
  have HD := Lib.hid D
  obtain ⟨B0, hB0⟩ : ∃ v, (b || opnB x 3) = v := ⟨_, rfl⟩
  obtain ⟨C0, hC0⟩ : ∃ v, ((false || opnB i0 5) || opnB i1 3) = v := ⟨_, rfl⟩
  have HB0 := Lib.hid hB0
  have HC0 := Lib.hid hC0
  rw [hB0, hC0] at S
  clear hW0 hq D hB0 hC0 z1 z2 z3 z4 z5 z6 u1 u2 u3 e0 e1 e2 e3 e4 e5 e6 g0 g1 g2 x1 x3 x5 r2 r3 r4 r5 r6 h4' x6 p0 hk1 hkh hkx
  go_wp2_with fail
  rw [show w6.alloc (.cells #[.int .u64 0, .int .u64 0, .string ⟨#[]⟩, .string ⟨#[]⟩, .string ⟨#[]⟩, .string ⟨#[]⟩, .string ⟨#[]⟩, .int .u64 0, .slice none 0 0] 40) = W0 from HW1.out, HQ.out]
  refine (rdNumber_two S.rkh S.rg (by have ⟨_, _, _, _, _, _⟩ := HD.out; omega)).mono ?_
  rintro e v0 ⟨rfl, r1, r2, e1⟩
  have T := S.stepH HD.out r1 r2 e1
  obtain ⟨B1, hB⟩ : ∃ v, (B0 || numB h0) = v := ⟨_, rfl⟩
  rw [hB] at T
  have HB1 := Lib.hid hB
  have cq := T.cq.cell (j := 0) rfl
  have fq := T.cq.frozen 0
  have lq := T.cq.lt
  clear S r1 r2 e1 hB
  have S := T.store HD.out 0 (.int .u64 (numV h0))
  clear T
  go_wp2_with fail
  clear cq fq lq
  refine (rdNumber_two S.rkh S.rg (by have ⟨_, _, _, _, _, _⟩ := HD.out; omega)).mono ?_
  rintro e v1 ⟨rfl, r1, r2, e1⟩
  have T := S.stepH HD.out r1 r2 e1
  obtain ⟨B2, hB⟩ : ∃ v, (B1 || numB h1) = v := ⟨_, rfl⟩
  rw [hB] at T
  have HB2 := Lib.hid hB
  have cq := T.cq.cell (j := 1) rfl
  have fq := T.cq.frozen 1
  have lq := T.cq.lt
  clear S r1 r2 e1 hB
  have S := T.store HD.out 1 (.int .u64 (numV h1))
  clear T
  go_wp2_with fail
  clear cq fq lq
  refine (rdText_two S.rkh S.rg (by have ⟨_, _, _, _, _, _⟩ := HD.out; omega)).mono ?_
  rintro e v2 ⟨rfl, r1, r2, e1⟩
  have T := S.stepH HD.out r1 r2 e1
  obtain ⟨B3, hB⟩ : ∃ v, (B2 || h2.isList) = v := ⟨_, rfl⟩
  rw [hB] at T
  have HB3 := Lib.hid hB
  have cq := T.cq.cell (j := 2) rfl
  have fq := T.cq.frozen 2
  have lq := T.cq.lt
  clear S r1 r2 e1 hB
  have S := T.store HD.out 2 (.string (txtB h2))
  clear T
  go_wp2_with fail
  clear cq fq lq
  refine (rdText_two S.rkh S.rg (by have ⟨_, _, _, _, _, _⟩ := HD.out; omega)).mono ?_
  rintro e v3 ⟨rfl, r1, r2, e1⟩
  have T := S.stepH HD.out r1 r2 e1
  obtain ⟨B4, hB⟩ : ∃ v, (B3 || h3.isList) = v := ⟨_, rfl⟩
  rw [hB] at T
  have HB4 := Lib.hid hB
  have cq := T.cq.cell (j := 3) rfl
  have fq := T.cq.frozen 3
  have lq := T.cq.lt
  clear S r1 r2 e1 hB
  have S := T.store HD.out 3 (.string (txtB h3))
  clear T
  go_wp2_with fail
  clear cq fq lq
  refine (rdText_two S.rkh S.rg (by have ⟨_, _, _, _, _, _⟩ := HD.out; omega)).mono ?_
  rintro e v4 ⟨rfl, r1, r2, e1⟩
  have T := S.stepH HD.out r1 r2 e1
  obtain ⟨B5, hB⟩ : ∃ v, (B4 || h4.isList) = v := ⟨_, rfl⟩
  rw [hB] at T
  have HB5 := Lib.hid hB
  have cq := T.cq.cell (j := 4) rfl
  have fq := T.cq.frozen 4
  have lq := T.cq.lt
  clear S r1 r2 e1 hB
  have S := T.store HD.out 4 (.string (txtB h4))
  clear T
  go_wp2_with fail
  clear cq fq lq
  refine (rdText_two S.rkx S.rg (by have ⟨_, _, _, _, _, _⟩ := HD.out; omega)).mono ?_
  rintro e v5 ⟨rfl, r1, r2, e1⟩
  have T := S.stepX HD.out r1 r2 e1
  obtain ⟨B6, hB⟩ : ∃ v, (B5 || y0.isList) = v := ⟨_, rfl⟩
  rw [hB] at T
  have HB6 := Lib.hid hB
  have cq := T.cq.cell (j := 5) rfl
  have fq := T.cq.frozen 5
  have lq := T.cq.lt
  clear S r1 r2 e1 hB
  have S := T.store HD.out 5 (.string (txtB y0))
  clear T
  go_wp2_with fail
  clear cq fq lq
  refine (rdText_two S.rkx S.rg (by have ⟨_, _, _, _, _, _⟩ := HD.out; omega)).mono ?_
  rintro e v6 ⟨rfl, r1, r2, e1⟩
  have T := S.stepX HD.out r1 r2 e1
  obtain ⟨B7, hB⟩ : ∃ v, (B6 || y1.isList) = v := ⟨_, rfl⟩
  rw [hB] at T
  have HB7 := Lib.hid hB
  have cq := T.cq.cell (j := 6) rfl
  have fq := T.cq.frozen 6
  have lq := T.cq.lt
  clear S r1 r2 e1 hB
  have S := T.store HD.out 6 (.string (txtB y1))
  clear T
  go_wp2_with fail
  clear cq fq lq
  refine (rdNumber_two S.rkx S.rg (by have ⟨_, _, _, _, _, _⟩ := HD.out; omega)).mono ?_
  rintro e v7 ⟨rfl, r1, r2, e1⟩
  have T := S.stepX HD.out r1 r2 e1
  obtain ⟨B8, hB⟩ : ∃ v, (B7 || numB y2) = v := ⟨_, rfl⟩
  rw [hB] at T
  have HB8 := Lib.hid hB
  have cq := T.cq.cell (j := 7) rfl
  have fq := T.cq.frozen 7
  have lq := T.cq.lt
  clear S r1 r2 e1 hB
  have S := T.store HD.out 7 (.int .u64 (numV y2))
  clear T
  go_wp2_with fail
  clear cq fq lq
  refine (rdTexts_any S.rk1 HXL.out).mono ?_
  rintro e v8 ⟨V, rfl, hs, hV, r1, e1⟩
  have T := S.stepT HD.out r1 e1
  have hQ := S.cq.lt
  obtain ⟨pV, cV, rfl, _⟩ := id hs
  obtain ⟨C1, hC⟩ : ∃ v, (C0 || tsB i2) = v := ⟨_, rfl⟩
  rw [hC] at T
  have HC1 := Lib.hid hC
  have hvq : (Value.slice pV (tsL i2).length cV).ownBlock ≠ some q := fun e => by have := hV q e; omega
  have hvp : ∀ a, pV = some a → w.heap.size < a.block := fun a e => by
    subst e
    have := hV _ rfl
    have ⟨_, _, _, _, _, _⟩ := HD.out
    omega
  have HVP := Lib.hid hvp
  have HS := Lib.hid (hs.upon (Upon.set v8 q 8 (.slice pV (tsL i2).length cV)) hvq)
  have cq := T.cq.cell (j := 8) rfl
  have fq := T.cq.frozen 8
  have lq := T.cq.lt
  have F := T.store HD.out 8 (.slice pV (tsL i2).length cV)
  obtain ⟨w9, hw9⟩ : ∃ W, v8.setCell ⟨q, 8, none⟩ (.slice pV (tsL i2).length cV) = W := ⟨_, rfl⟩
  have HW9 := Lib.hid hw9
  rw [hw9] at F HS
  obtain ⟨cg, fg⟩ := F.rg.cells
  obtain ⟨ck, _⟩ := F.rk1.cells
  rw [← hw9] at cg fg ck
  have hlg : g < v8.heap.size := T.rg.lt
  have hlk : k1 < v8.heap.size := T.rk1.lt
  clear S T hs hV r1 e1 hC hvq hvp hw9 hQ
  have hfin : (B8 || C1) = (b || (opnB x 3 || numB h0 || numB h1 || h2.isList || h3.isList || h4.isList || y0.isList || y1.isList || numB y2 || (opnB i0 5 || opnB i1 3 || tsB i2))) := by
    rw [← HB8.out, ← HB7.out, ← HB6.out, ← HB5.out, ← HB4.out, ← HB3.out, ← HB2.out, ← HB1.out, ← HB0.out, ← HC1.out, ← HC0.out]
    simp only [Bool.or_assoc, Bool.false_or]
  have HFin := Lib.hid hfin
  have cqL : HasCells w9 q [.int .u64 (numV h0), .int .u64 (numV h1), .string (txtB h2), .string (txtB h3), .string (txtB h4), .string (txtB y0), .string (txtB y1), .int .u64 (numV y2), .slice pV (tsL i2).length cV] 40 := F.cq
  have hne : g ≠ q ∧ g ≠ w.heap.size ∧ w.heap.size ≠ q ∧ n ≤ w.heap.size := by have ⟨_, _, _, _, _, _⟩ := HD.out; omega
  have fin : ∀ X : Bool, HasCells (w9.setCell ⟨g, 1, none⟩ (.bool X)) q [.int .u64 (numV h0), .int .u64 (numV h1), .string (txtB h2), .string (txtB h3), .string (txtB h4), .string (txtB y0), .string (txtB y1), .int .u64 (numV y2), .slice pV (tsL i2).length cV] 40 ∧ HasCells (w9.setCell ⟨g, 1, none⟩ (.bool X)) w.heap.size lightZ 40 ∧
      HasCells ((w9.setCell ⟨g, 1, none⟩ (.bool X)).setCells w.heap.size 0 [.int .u64 (numV h0), .int .u64 (numV h1), .string (txtB h2), .string (txtB h3), .string (txtB h4), .string (txtB y0), .string (txtB y1), .int .u64 (numV y2), .slice pV (tsL i2).length cV]) w.heap.size [.int .u64 (numV h0), .int .u64 (numV h1), .string (txtB h2), .string (txtB h3), .string (txtB h4), .string (txtB y0), .string (txtB y1), .int .u64 (numV y2), .slice pV (tsL i2).length cV] 40 ∧
      Strs ((w9.setCell ⟨g, 1, none⟩ (.bool X)).setCells w.heap.size 0 [.int .u64 (numV h0), .int .u64 (numV h1), .string (txtB h2), .string (txtB h3), .string (txtB h4), .string (txtB y0), .string (txtB y1), .int .u64 (numV y2), .slice pV (tsL i2).length cV]) (.slice pV (tsL i2).length cV) (tsL i2) ∧ RdAt n ((w9.setCell ⟨g, 1, none⟩ (.bool X)).setCells w.heap.size 0 [.int .u64 (numV h0), .int .u64 (numV h1), .string (txtB h2), .string (txtB h3), .string (txtB h4), .string (txtB y0), .string (txtB y1), .int .u64 (numV y2), .slice pV (tsL i2).length cV]) g l X ∧ Ext n [g] w ((w9.setCell ⟨g, 1, none⟩ (.bool X)).setCells w.heap.size 0 [.int .u64 (numV h0), .int .u64 (numV h1), .string (txtB h2), .string (txtB h3), .string (txtB h4), .string (txtB y0), .string (txtB y1), .int .u64 (numV y2), .slice pV (tsL i2).length cV]) := fun X => by
    have hu := Upon.set w9 g 1 (.bool X)
    have hu2 := Upon.sets w.heap.size [.int .u64 (numV h0), .int .u64 (numV h1), .string (txtB h2), .string (txtB h3), .string (txtB h4), .string (txtB y0), .string (txtB y1), .int .u64 (numV y2), .slice pV (tsL i2).length cV] 0 (w9.setCell ⟨g, 1, none⟩ (.bool X))
    have t2 := F.cp.upon hu (Ne.symm hne.2.1)
    obtain ⟨s1, s2⟩ := F.rg.set1 X
    refine ⟨cqL.upon hu (Ne.symm hne.1), t2, t2.sets [.int .u64 (numV h0), .int .u64 (numV h1), .string (txtB h2), .string (txtB h3), .string (txtB h4), .string (txtB y0), .string (txtB y1), .int .u64 (numV y2), .slice pV (tsL i2).length cV] 0, (HS.out.upon hu ?_).upon hu2 ?_, s1.upon t2 (by decide) hne.2.2.2 hu2 hne.2.1, (F.ex.trans s2).upon hu2 (Nat.le_refl _)⟩
    · intro e
      cases pV with
      | none => cases e
      | some a => have := HVP.out a rfl; have := Option.some.inj e; omega
    · intro e
      cases pV with
      | none => cases e
      | some a => have := HVP.out a rfl; have := Option.some.inj e; omega
  have hone : ([.int .u64 (numV h0), .int .u64 (numV h1), .string (txtB h2), .string (txtB h3), .string (txtB h4), .string (txtB y0), .string (txtB y1), .int .u64 (numV y2), .slice pV (tsL i2).length cV] : List Value).toArray.all (·.oneCell') = true := all_oneCell_toArray (fun v hv => by
    simp only [List.mem_cons, List.not_mem_nil, or_false] at hv
    rcases hv with rfl | rfl | rfl | rfl | rfl | rfl | rfl | rfl | rfl <;> rfl)
  have HOne := Lib.hid hone
  have Fin := Lib.hid fin
  clear hone
  clear fin F cqL hfin hne HI HH HY HXL
  cases B8 with
  | false =>
    go_wp2_with (first | ((with_reducible refine load_gate 40 ?_); rw [HW9.out]; refine wpList_load_mid rfl 40 _ rfl q 0 rfl [.int .u64 (numV h0), .int .u64 (numV h1), .string (txtB h2), .string (txtB h3), .string (txtB h4), .string (txtB y0), .string (txtB y1), .int .u64 (numV y2), .slice pV (tsL i2).length cV] _ (Fin.out C1).1.range Tryz.underlying40 rfl infoLight ?_) | ((with_reducible refine store_gate 40 ?_); refine wpList_store_mid rfl 40 _ _ rfl w.heap.size 0 [.int .u64 (numV h0), .int .u64 (numV h1), .string (txtB h2), .string (txtB h3), .string (txtB h4), .string (txtB y0), .string (txtB y1), .int .u64 (numV y2), .slice pV (tsL i2).length cV].toArray rfl rfl ((Fin.out C1).2.1.there 0 9 (by decide)) infoLight HOne.out ?_))
    obtain ⟨_, _, z3, z4, z5, z6⟩ := Fin.out C1
    refine bodyPost_ret (results_cells rfl _ _ w.heap.size [.int .u64 (numV h0), .int .u64 (numV h1), .string (txtB h2), .string (txtB h3), .string (txtB h4), .string (txtB y0), .string (txtB y1), .int .u64 (numV y2), .slice pV (tsL i2).length cV] _ rfl z3.range Tryz.underlying40 rfl infoLight) rfl ?_
    rw [← HFin.out, Bool.false_or]
    exact ⟨pV, cV, rfl, z4, HVP.out, z5, z6⟩
  | true =>
    go_wp2_with (first | ((with_reducible refine load_gate 40 ?_); rw [HW9.out]; refine wpList_load_mid rfl 40 _ rfl q 0 rfl [.int .u64 (numV h0), .int .u64 (numV h1), .string (txtB h2), .string (txtB h3), .string (txtB h4), .string (txtB y0), .string (txtB y1), .int .u64 (numV y2), .slice pV (tsL i2).length cV] _ (Fin.out true).1.range Tryz.underlying40 rfl infoLight ?_) | ((with_reducible refine store_gate 40 ?_); refine wpList_store_mid rfl 40 _ _ rfl w.heap.size 0 [.int .u64 (numV h0), .int .u64 (numV h1), .string (txtB h2), .string (txtB h3), .string (txtB h4), .string (txtB y0), .string (txtB y1), .int .u64 (numV y2), .slice pV (tsL i2).length cV].toArray rfl rfl ((Fin.out true).2.1.there 0 9 (by decide)) infoLight HOne.out ?_))
    obtain ⟨_, _, z3, z4, z5, z6⟩ := Fin.out true
    refine bodyPost_ret (results_cells rfl _ _ w.heap.size [.int .u64 (numV h0), .int .u64 (numV h1), .string (txtB h2), .string (txtB h3), .string (txtB h4), .string (txtB y0), .string (txtB y1), .int .u64 (numV y2), .slice pV (tsL i2).length cV] _ rfl z3.range Tryz.underlying40 rfl infoLight) rfl ?_
    rw [← HFin.out, Bool.true_or]
    exact ⟨pV, cV, rfl, z4, HVP.out, z5, z6⟩
end Go.Proofs.YtpfmdhcmhcoddaaGreatDoor

/- Contract of a reader's committee. -/
namespace Go.Proofs.YtpfmdhcmhcoddaaGreatDoor
open Go.RowKit Go.Shelf Go.Lib
attribute [local go_sem] Oper.semAt_some

theorem infoComm : (Tryz.prog.info? 42).map (·.size) = some 2 := by kernel_rfl
set_option maxRecDepth 100000 in
set_option maxHeartbeats 12800000 in
theorem rdComm_any {n : Nat} {w : World} {g : Nat} {x : Item} {l : List Item} {b : Bool} (hg : RdAt n w g (x :: l) b) (hxl : (ci x 0).list.length ≤ 1099511627776) :
    Calls Tryz.prog 59 #[.pointer (some ⟨g, 0, none⟩)] w fun e w' => ∃ p c, e = .returned (.agg (commC x (.slice p (tsL (ci x 0)).length c)).toArray) ∧ Strs w' (.slice p (tsL (ci x 0)).length c) (tsL (ci x 0)) ∧ (∀ a, p = some a → w.heap.size < a.block) ∧ RdAt n w' g l (b || commB x) ∧ Ext n [g] w w' := by
  have hn := hg.ge
  have hlt := hg.lt
  obtain ⟨c0, c1, hi⟩ := opn2 x
  have q0 : ci x 0 = c0 := by unfold ci; rw [hi]; rfl
  have q1 : ci x 1 = c1 := by unfold ci; rw [hi]; rfl
  have hC : ∀ V, commC x V = [V, .string (txtB c1)] := fun V => by unfold commC; rw [q1]
  have hB : commB x = (opnB x 2 || c1.isList || tsB c0) := by unfold commB; rw [q0, q1]
  rw [q0] at hxl ⊢
  rw [hB]
  simp only [hC]
  have HI := Lib.hid hi
  have HXL := Lib.hid hxl
  obtain ⟨w0, hw0⟩ : ∃ W, w.alloc (.cells commZ.toArray 42) = W := ⟨_, rfl⟩
  have e0 : Ext n [] w w0 := by rw [← hw0]; exact (Ext.refl _ _ _).alloc _
  have p0 : HasCells w0 w.heap.size commZ 42 := by rw [← hw0]; exact HasCells.new w _ _
  have g0 := hg.ext e0.c (by simp)
  have hz0 : w.heap.size < w0.heap.size := by rw [← hw0]; simp
  have HW0 := Lib.hid hw0
  clear hi q0 q1 hC hB hxl hg hw0
  go_enter Tryz.func59, Tryz.ntmps59
  go_wp2_with fail
  rw [show w.alloc (.cells #[.slice none 0 0, .string ⟨#[]⟩] 42) = w0 from HW0.out]
  refine (rdItem_any g0).mono ?_
  rintro e w1 ⟨⟨p1, cp1, rfl, x1⟩, g1, e1⟩
  go_wp2_with fail
  refine (rdOpen_2 g1 x1).mono ?_
  rintro e w2 ⟨k1, rfl, hk1, r2, g2, e2⟩
  rw [HI.out] at r2
  go_wp2_with fail
  refine (rdTexts_any r2 HXL.out).mono ?_
  rintro e w3 ⟨V, rfl, hs, hV, r3, e3⟩
  obtain ⟨pV, cV, rfl, _⟩ := id hs
  have z1 := e1.size
  have z2 := e2.size
  have z3 := e3.size
  have hk2 : k1 < w2.heap.size := r2.lt
  have g3 := g2.ext e3.c (by simp; omega)
  obtain ⟨W0, hW0⟩ : ∃ W, w3.alloc (.cells ([.slice pV (tsL c0).length cV, .string ⟨#[]⟩] : List Value).toArray 42) = W := ⟨_, rfl⟩
  have f3 : Ext n [] w3 W0 := by rw [← hW0]; exact (Ext.refl _ _ _).alloc _
  have cq0 : HasCells W0 w3.heap.size [.slice pV (tsL c0).length cV, .string ⟨#[]⟩] 42 := by rw [← hW0]; exact HasCells.new _ _ _
  have cp0 : HasCells W0 w.heap.size commZ 42 := (((p0.ext e1 (by decide)).ext e2 (by decide)).ext e3 (by decide)).ext f3 (by decide)
  have g4 := g3.ext f3.c (by simp)
  have r4 := r3.ext f3.c (by simp)
  have s4 := hs.ext f3.c
  have ex0 : Ext n [g] w W0 := by
    have t1 : Ext n [g, k1] w W0 := (e0.mono (by simp)).trans ((e1.mono (by simp)).trans ((e2.mono (by simp)).trans ((e3.mono (by simp)).trans (f3.mono (by simp)))))
    exact t1.drop (by simp; omega)
  have HW1 := Lib.hid hW0
  have H := Lib.hid (rdText_two r4 g4 (by omega))
  have hvb : ∀ a, pV = some a → w2.heap.size ≤ a.block := fun a e => hV a.block (by rw [e]; rfl)
  have hvlt : ∀ a, pV = some a → (tsL c0) ≠ [] → a.block < w3.heap.size := fun a e hne => by
    obtain ⟨p, c, hv, _, h⟩ := id hs
    cases hv
    rcases h with h | ⟨bk, o, hp, hk, _⟩
    · exact absurd h hne
    · rw [e] at hp; cases hp; exact hk
  clear hW0 g2 g3 g0 g1 e0 r2 r3
  go_wp2_with fail
  rw [show w3.alloc (.cells #[.slice pV (tsL c0).length cV, .string ⟨#[]⟩] 42) = W0 from HW1.out]
  refine H.out.mono ?_
  rintro e v1 ⟨rfl, r5, g5, e5⟩
  have hne : k1 ≠ w3.heap.size ∧ g ≠ w3.heap.size ∧ g ≠ w.heap.size ∧ w.heap.size ≠ w3.heap.size ∧ n ≤ w.heap.size ∧ n ≤ w3.heap.size ∧ w.heap.size ≤ w3.heap.size := by omega
  have s5 := s4.ext e5.c
  have hs' : Strs w3 (.slice pV (tsL c0).length cV) (tsL c0) := hs
  obtain ⟨q, hq⟩ : ∃ q, w3.heap.size = q := ⟨_, rfl⟩
  rw [hq] at cq0 hne
  have cq1 := cq0.ext e5 (by decide)
  have cp1 := cp0.ext e5 (by decide)
  have ex1 : Ext n [g] w v1 := by
    have t1 : Ext n [k1, g] w v1 := (ex0.mono (by simp)).trans e5
    exact t1.drop (by simp; omega)
  have u9 := Upon.set v1 q 1 (.string (txtB c1))
  obtain ⟨w9, hw9⟩ : ∃ W, v1.setCell ⟨q, 1, none⟩ (.string (txtB c1)) = W := ⟨_, rfl⟩
  have fq := cq1.cell (j := 1) rfl
  have ffq := cq1.frozen 1
  have lq := cq1.lt
  have g9 := g5.upon cq1 (by decide) hne.2.2.2.2.2.1 u9 hne.2.1
  have k9 := r5.upon cq1 (by decide) hne.2.2.2.2.2.1 u9 hne.1
  have cq9 : HasCells (v1.setCell ⟨q, 1, none⟩ (.string (txtB c1))) q [.slice pV (tsL c0).length cV, .string (txtB c1)] 42 := cq1.set 1 (.string (txtB c1))
  have cp9 := cp1.upon u9 hne.2.2.2.1
  have ex9 := ex1.upon u9 (by have := hne.2.2.2.2.2.2; omega)
  have s9 := s5.upon_new hs' u9 (Nat.le_of_eq hq)
  obtain ⟨B1, hB1⟩ : ∃ v, ((b || opnB x 2) || c1.isList) = v := ⟨_, rfl⟩
  obtain ⟨C1, hC1⟩ : ∃ v, (false || tsB c0) = v := ⟨_, rfl⟩
  rw [hB1] at g9
  rw [hC1] at k9
  have hfin : (B1 || C1) = (b || (opnB x 2 || c1.isList || tsB c0)) := by
    rw [← hB1, ← hC1]
    simp only [Bool.or_assoc, Bool.false_or]
  have HFin := Lib.hid hfin
  obtain ⟨cg, fg⟩ := g9.cells
  obtain ⟨ck, _⟩ := k9.cells
  have hlg : g < v1.heap.size := g5.lt
  have hlk : k1 < v1.heap.size := r5.lt
  rw [hw9] at g9 k9 cq9 cp9 ex9 s9
  have HW9 := Lib.hid hw9
  have HVP := Lib.hid (show ∀ a, pV = some a → w.heap.size < a.block from fun a e => by have := hvb a e; omega)
  have hvg : ∀ a, pV = some a → w2.heap.size ≤ a.block := hvb
  have hone : ([.slice pV (tsL c0).length cV, .string (txtB c1)] : List Value).toArray.all (·.oneCell') = true := all_oneCell_toArray (fun v hv => by
    simp only [List.mem_cons, List.not_mem_nil, or_false] at hv
    rcases hv with rfl | rfl <;> rfl)
  have HOne := Lib.hid hone
  have fin : ∀ X : Bool, HasCells (w9.setCell ⟨g, 1, none⟩ (.bool X)) q [.slice pV (tsL c0).length cV, .string (txtB c1)] 42 ∧ HasCells (w9.setCell ⟨g, 1, none⟩ (.bool X)) w.heap.size commZ 42 ∧
      HasCells ((w9.setCell ⟨g, 1, none⟩ (.bool X)).setCells w.heap.size 0 [.slice pV (tsL c0).length cV, .string (txtB c1)]) w.heap.size [.slice pV (tsL c0).length cV, .string (txtB c1)] 42 ∧
      Strs ((w9.setCell ⟨g, 1, none⟩ (.bool X)).setCells w.heap.size 0 [.slice pV (tsL c0).length cV, .string (txtB c1)]) (.slice pV (tsL c0).length cV) (tsL c0) ∧ RdAt n ((w9.setCell ⟨g, 1, none⟩ (.bool X)).setCells w.heap.size 0 [.slice pV (tsL c0).length cV, .string (txtB c1)]) g l X ∧ Ext n [g] w ((w9.setCell ⟨g, 1, none⟩ (.bool X)).setCells w.heap.size 0 [.slice pV (tsL c0).length cV, .string (txtB c1)]) := fun X => by
    have hu := Upon.set w9 g 1 (.bool X)
    have hu2 := Upon.sets w.heap.size [.slice pV (tsL c0).length cV, .string (txtB c1)] 0 (w9.setCell ⟨g, 1, none⟩ (.bool X))
    have t2 := cp9.upon hu (Ne.symm hne.2.2.1)
    obtain ⟨s1, s2⟩ := g9.set1 X
    refine ⟨cq9.upon hu (Ne.symm hne.2.1), t2, t2.sets [.slice pV (tsL c0).length cV, .string (txtB c1)] 0, (s9.upon hu ?_).upon hu2 ?_, s1.upon t2 (by decide) hne.2.2.2.2.1 hu2 hne.2.2.1, (ex9.trans s2).upon hu2 (Nat.le_refl _)⟩
    · intro e
      cases pV with
      | none => cases e
      | some a => have := HVP.out a rfl; have := Option.some.inj e; omega
    · intro e
      cases pV with
      | none => cases e
      | some a => have := HVP.out a rfl; have := Option.some.inj e; omega
  have Fin := Lib.hid fin
  have HQ := Lib.hid hq
  have hqs := hq
  clear hw9 fin g9 k9 cq9 cp9 ex9 s9 hne hfin hone hB1 hC1 u9 ex1 cp1 cq1 s5 g5 r5 e5 e1 e2 e3 f3 cq0 cp0 ex0 s4 g4 r4 hs hs' hvb hvg hvlt hV x1 p0 HI HXL H hq
  rw [hqs]
  clear hqs
  cases B1 with
  | false =>
    go_wp2_with (first | ((with_reducible refine load_gate 42 ?_); rw [HW9.out]; refine wpList_load_mid rfl 42 _ rfl q 0 rfl [.slice pV (tsL c0).length cV, .string (txtB c1)] _ (Fin.out C1).1.range Tryz.underlying42 rfl infoComm ?_) | ((with_reducible refine store_gate 42 ?_); refine wpList_store_mid rfl 42 _ _ rfl w.heap.size 0 ([.slice pV (tsL c0).length cV, .string (txtB c1)] : List Value).toArray rfl rfl ((Fin.out C1).2.1.there 0 2 (by decide)) infoComm HOne.out ?_))
    obtain ⟨_, _, z3, z4, z5, z6⟩ := Fin.out C1
    refine bodyPost_ret (results_cells rfl _ _ w.heap.size [.slice pV (tsL c0).length cV, .string (txtB c1)] _ rfl z3.range Tryz.underlying42 rfl infoComm) rfl ?_
    rw [← HFin.out, Bool.false_or]
    exact ⟨pV, cV, rfl, z4, HVP.out, z5, z6⟩
  | true =>
    go_wp2_with (first | ((with_reducible refine load_gate 42 ?_); rw [HW9.out]; refine wpList_load_mid rfl 42 _ rfl q 0 rfl [.slice pV (tsL c0).length cV, .string (txtB c1)] _ (Fin.out true).1.range Tryz.underlying42 rfl infoComm ?_) | ((with_reducible refine store_gate 42 ?_); refine wpList_store_mid rfl 42 _ _ rfl w.heap.size 0 ([.slice pV (tsL c0).length cV, .string (txtB c1)] : List Value).toArray rfl rfl ((Fin.out true).2.1.there 0 2 (by decide)) infoComm HOne.out ?_))
    obtain ⟨_, _, z3, z4, z5, z6⟩ := Fin.out true
    refine bodyPost_ret (results_cells rfl _ _ w.heap.size [.slice pV (tsL c0).length cV, .string (txtB c1)] _ rfl z3.range Tryz.underlying42 rfl infoComm) rfl ?_
    rw [← HFin.out, Bool.true_or]
    exact ⟨pV, cV, rfl, z4, HVP.out, z5, z6⟩
end Go.Proofs.YtpfmdhcmhcoddaaGreatDoor

/- Contract of head.opened. -/
namespace Go.Proofs.YtpfmdhcmhcoddaaGreatDoor
open Go.RowKit Go.Shelf Go.Lib
attribute [local go_sem] Oper.semAt_some

theorem sizeAll_mem {l : List Item} {y : Item} (h : y ∈ l) : y.size ≤ sizeAll l := by
  induction l with
  | nil => cases h
  | cons x r ih =>
    rw [sizeAll]
    rcases List.mem_cons.1 h with rfl | h
    · omega
    · have := ih h; omega
theorem sizeAll_len (l : List Item) : l.length ≤ sizeAll l := by
  induction l with
  | nil => exact Nat.le_refl _
  | cons x r ih => rw [sizeAll, List.length_cons]; have := x.size_pos; omega
theorem Item.len_size (x : Item) : x.list.length ≤ x.size := by rw [Item.size_eq]; have := sizeAll_len x.list; omega
theorem opnL_size {x : Item} {m : Int} {N : Nat} (hx : x.size ≤ N) (h1 : 1 ≤ N) {y : Item} (hy : y ∈ opnL x m) : y.size ≤ N := by
  unfold opnL at hy
  cases hb : opnB x m with
  | true =>
    rw [hb] at hy
    have := List.eq_of_mem_replicate hy
    subst this
    exact h1
  | false =>
    rw [hb] at hy
    have h2 := sizeAll_mem (show y ∈ x.list from hy)
    rw [Item.size_eq] at hx
    omega
theorem getD_size {l : List Item} {N i : Nat} (h1 : 1 ≤ N) (h : ∀ y ∈ l, y.size ≤ N) : (l.getD i Item.none).size ≤ N := by
  rw [List.getD_eq_getElem?_getD]
  cases he : l[i]? with
  | none => exact h1
  | some y => exact h y (List.mem_of_getElem? he)
theorem li_size {x : Item} {N i : Nat} (hx : x.size ≤ N) (h1 : 1 ≤ N) : (li x i).size ≤ N := getD_size h1 (fun _ hy => opnL_size hx h1 hy)
theorem ci_size {x : Item} {N i : Nat} (hx : x.size ≤ N) (h1 : 1 ≤ N) : (ci x i).size ≤ N := getD_size h1 (fun _ hy => opnL_size hx h1 hy)
theorem decode_size (s : List UInt8) : (decode s).1.size ≤ 65537 := by
  unfold decode
  by_cases h : s.length > 65536
  · rw [if_pos h]; decide
  · rw [if_neg h]
    cases ha : all s with
    | none => decide
    | some xs =>
      have hz := all_size ha
      match xs, hz with
      | [], _ => decide
      | [x], hz =>
        dsimp only
        have : sizeAll [x] = x.size := rfl
        by_cases hd : deep x 12
        · rw [if_pos hd]; decide
        · rw [if_neg hd]; dsimp only; omega
      | _ :: _ :: _, _ => show Item.none.size ≤ 65537; decide
set_option maxRecDepth 100000 in
set_option maxHeartbeats 3200000 in
theorem opened_3 (s : List UInt8) (w : World) (hs : s.length ≤ 1099511627776) : Calls Tryz.prog 57 #[.string ⟨s.toArray⟩, .int .i64 3] w fun e w' => ∃ k n, e = .returned (.pointer (some ⟨k, 0, none⟩)) ∧
    w.heap.size ≤ n ∧ RdAt n w' k (opnL (decode s).1 3) (opnB (decode s).1 3 || decide ((decode s).2 ≠ 0)) ∧ Below w.heap.size w w' := by
  have H := Lib.hid (decode_any s w hs)
  obtain ⟨X, hX⟩ : ∃ X, (decode s).1 = X := ⟨_, rfl⟩
  obtain ⟨cE, hC⟩ : ∃ C, (decode s).2 = C := ⟨_, rfl⟩
  rw [hX, hC]
  have HX := Lib.hid hX
  have HC := Lib.hid hC
  clear hs hX hC
  go_enter Tryz.func57, Tryz.ntmps57
  go_wp2_with fail
  refine H.out.mono ?_
  rintro e w1 ⟨hb1, x, ce, p, c, rfl, hdec, hrd⟩
  obtain rfl : X = x := by rw [← HX.out, hdec.out]
  obtain rfl : cE = ce := by rw [← HC.out, hdec.out]
  clear hdec H
  have hr1 : RdI w1.heap.size w1 (.slice p X.list.length c) X.list := ReadsIn.mono hrd.out (fun g hg => ⟨hg, .inl hg⟩)
  obtain ⟨w3, hw3⟩ : ∃ W, (w1.alloc (.cells #[.bool X.isList, .string (txtB X), .slice p X.list.length c] 118)).alloc (rdObj (.slice none 0 0) false) = W := ⟨_, rfl⟩
  have f3 : Ext w1.heap.size [] w1 w3 := by rw [← hw3]; exact ((Ext.refl _ _ _).alloc _).alloc _
  have t3 : RdAt w1.heap.size w3 (w1.heap.size + 1) [] false := by
    refine ⟨by omega, none, 0, ?_, RdI.empty _ _ _ _⟩
    rw [← hw3]
    have := World.alloc_heap_new (w1.alloc (.cells #[.bool X.isList, .string (txtB X), .slice p X.list.length c] 118)) (rdObj (.slice none 0 0) false)
    rwa [World.size_alloc] at this
  have H3 := Lib.hid (rdOpen_3 t3 (hr1.ext f3.c))
  have hb3 : Below w.heap.size w w3 := hb1.trans (by rw [← hw3]; exact (((Below.refl _ _).alloc (Nat.le_refl _) _).alloc (by simp) _).mono hb1.size)
  have HW3 := Lib.hid hw3
  have HB3 := Lib.hid hb3
  have hz1 := hb1.size
  clear hw3 hb3 t3 f3 hr1 hrd hb1
  go_wp2_with fail
  rw [show ((w1.alloc (.cells #[.bool X.isList, .string ⟨X.text.toArray⟩, .slice p X.list.length c] 118)).alloc (.cells #[.slice none 0 0, .bool false] 147)) = w3 from HW3.out]
  refine H3.out.mono ?_
  rintro e w4 ⟨k, rfl, hk, rk, rt, e4⟩
  obtain ⟨ct, _⟩ := rt.cells
  obtain ⟨ck, fk⟩ := rk.cells
  have hlt := rt.lt
  have hlk := rk.lt
  have hk3 : w1.heap.size ≤ w3.heap.size := by rw [← HW3.out]; simp; omega
  have fin : ∀ Y : Bool, RdAt w1.heap.size (w4.setCell ⟨k, 1, none⟩ (.bool Y)) k (opnL X 3) Y ∧ Below w.heap.size w (w4.setCell ⟨k, 1, none⟩ (.bool Y)) := fun Y => by
    obtain ⟨s1, s2⟩ := rk.set1 Y
    exact ⟨s1, HB3.out.trans ((e4.below (m := w.heap.size) (by omega) (by simp; omega)).trans (s2.below (by have := e4.size; omega) (by simp; omega)))⟩
  have Fin := Lib.hid fin
  obtain ⟨B, hB⟩ : ∃ v, opnB X 3 = v := ⟨_, rfl⟩
  rw [hB, Bool.false_or] at ct
  have HB := Lib.hid hB
  have hcb : (cE != 0) = decide (cE ≠ 0) := by by_cases hc : cE = 0 <;> simp [hc]
  obtain ⟨E, hE⟩ : ∃ E, decide (cE ≠ 0) = E := ⟨_, rfl⟩
  rw [hE] at hcb
  have HE := Lib.hid hE
  clear fin rk rt e4 hB hE
  cases B with
  | true =>
    go_wp2_with fail
    go_ret
    rw [HB.out, Bool.true_or]
    exact ⟨k, w1.heap.size, rfl, hz1, (Fin.out true).1, (Fin.out true).2⟩
  | false =>
    go_wp2_with fail
    go_ret
    rw [HB.out, HE.out, Bool.false_or]
    exact ⟨k, w1.heap.size, rfl, hz1, (Fin.out E).1, (Fin.out E).2⟩
set_option maxRecDepth 100000 in
set_option maxHeartbeats 3200000 in
theorem opened_8 (s : List UInt8) (w : World) (hs : s.length ≤ 1099511627776) : Calls Tryz.prog 57 #[.string ⟨s.toArray⟩, .int .i64 8] w fun e w' => ∃ k n, e = .returned (.pointer (some ⟨k, 0, none⟩)) ∧
    w.heap.size ≤ n ∧ RdAt n w' k (opnL (decode s).1 8) (opnB (decode s).1 8 || decide ((decode s).2 ≠ 0)) ∧ Below w.heap.size w w' := by
  have H := Lib.hid (decode_any s w hs)
  obtain ⟨X, hX⟩ : ∃ X, (decode s).1 = X := ⟨_, rfl⟩
  obtain ⟨cE, hC⟩ : ∃ C, (decode s).2 = C := ⟨_, rfl⟩
  rw [hX, hC]
  have HX := Lib.hid hX
  have HC := Lib.hid hC
  clear hs hX hC
  go_enter Tryz.func57, Tryz.ntmps57
  go_wp2_with fail
  refine H.out.mono ?_
  rintro e w1 ⟨hb1, x, ce, p, c, rfl, hdec, hrd⟩
  obtain rfl : X = x := by rw [← HX.out, hdec.out]
  obtain rfl : cE = ce := by rw [← HC.out, hdec.out]
  clear hdec H
  have hr1 : RdI w1.heap.size w1 (.slice p X.list.length c) X.list := ReadsIn.mono hrd.out (fun g hg => ⟨hg, .inl hg⟩)
  obtain ⟨w3, hw3⟩ : ∃ W, (w1.alloc (.cells #[.bool X.isList, .string (txtB X), .slice p X.list.length c] 118)).alloc (rdObj (.slice none 0 0) false) = W := ⟨_, rfl⟩
  have f3 : Ext w1.heap.size [] w1 w3 := by rw [← hw3]; exact ((Ext.refl _ _ _).alloc _).alloc _
  have t3 : RdAt w1.heap.size w3 (w1.heap.size + 1) [] false := by
    refine ⟨by omega, none, 0, ?_, RdI.empty _ _ _ _⟩
    rw [← hw3]
    have := World.alloc_heap_new (w1.alloc (.cells #[.bool X.isList, .string (txtB X), .slice p X.list.length c] 118)) (rdObj (.slice none 0 0) false)
    rwa [World.size_alloc] at this
  have H3 := Lib.hid (rdOpen_8 t3 (hr1.ext f3.c))
  have hb3 : Below w.heap.size w w3 := hb1.trans (by rw [← hw3]; exact (((Below.refl _ _).alloc (Nat.le_refl _) _).alloc (by simp) _).mono hb1.size)
  have HW3 := Lib.hid hw3
  have HB3 := Lib.hid hb3
  have hz1 := hb1.size
  clear hw3 hb3 t3 f3 hr1 hrd hb1
  go_wp2_with fail
  rw [show ((w1.alloc (.cells #[.bool X.isList, .string ⟨X.text.toArray⟩, .slice p X.list.length c] 118)).alloc (.cells #[.slice none 0 0, .bool false] 147)) = w3 from HW3.out]
  refine H3.out.mono ?_
  rintro e w4 ⟨k, rfl, hk, rk, rt, e4⟩
  obtain ⟨ct, _⟩ := rt.cells
  obtain ⟨ck, fk⟩ := rk.cells
  have hlt := rt.lt
  have hlk := rk.lt
  have hk3 : w1.heap.size ≤ w3.heap.size := by rw [← HW3.out]; simp; omega
  have fin : ∀ Y : Bool, RdAt w1.heap.size (w4.setCell ⟨k, 1, none⟩ (.bool Y)) k (opnL X 8) Y ∧ Below w.heap.size w (w4.setCell ⟨k, 1, none⟩ (.bool Y)) := fun Y => by
    obtain ⟨s1, s2⟩ := rk.set1 Y
    exact ⟨s1, HB3.out.trans ((e4.below (m := w.heap.size) (by omega) (by simp; omega)).trans (s2.below (by have := e4.size; omega) (by simp; omega)))⟩
  have Fin := Lib.hid fin
  obtain ⟨B, hB⟩ : ∃ v, opnB X 8 = v := ⟨_, rfl⟩
  rw [hB, Bool.false_or] at ct
  have HB := Lib.hid hB
  have hcb : (cE != 0) = decide (cE ≠ 0) := by by_cases hc : cE = 0 <;> simp [hc]
  obtain ⟨E, hE⟩ : ∃ E, decide (cE ≠ 0) = E := ⟨_, rfl⟩
  rw [hE] at hcb
  have HE := Lib.hid hE
  clear fin rk rt e4 hB hE
  cases B with
  | true =>
    go_wp2_with fail
    go_ret
    rw [HB.out, Bool.true_or]
    exact ⟨k, w1.heap.size, rfl, hz1, (Fin.out true).1, (Fin.out true).2⟩
  | false =>
    go_wp2_with fail
    go_ret
    rw [HB.out, HE.out, Bool.false_or]
    exact ⟨k, w1.heap.size, rfl, hz1, (Fin.out E).1, (Fin.out E).2⟩
end Go.Proofs.YtpfmdhcmhcoddaaGreatDoor
