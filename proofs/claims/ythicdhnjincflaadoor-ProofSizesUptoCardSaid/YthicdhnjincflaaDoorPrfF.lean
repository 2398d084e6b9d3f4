/- Contract of the walk's node: the item of a reference, and the texts that are left. -/
import Derived.Test.YthicdhnjincflaaDoorPrfB
import Derived.Test.YthicdhnjincflaaDoorTrfF
import Derived.Test.YthicdhnjincflaaDoorKecC
import Derived.Test.YthicdhnjincflaaDoorDecN
import Derived.Test.YthicdhnjincflaaDoorItG
import Derived.Test.YthicdhnjincflaaDoorShelfR
namespace Go.Proofs.YthicdhnjincflaaDoor
open Go.RowKit Go.Shelf Go.Lib
attribute [local go_sem] Oper.semAt_some

theorem KecT.belowP {w W : World} (h : KecT w) (hb : Below w.heap.size w W) : KecT W := by
  have key : ∀ g i v, w.cell? ⟨g, i, none⟩ = some v → W.cell? ⟨g, i, none⟩ = some v := fun g i v hc =>
    (World.cell?_of_block (hb.block g (World.block_lt_of_cell? w _ hc))).trans hc
  exact ⟨fun t ht => key _ _ _ (h.places t ht), fun t ht => key _ _ _ (h.turns t ht), fun t ht => key _ _ _ (h.consts t ht)⟩
/-- texts that lie below a bound -/
def StrsB (B : Nat) (w : World) (v : Value) (xs : List ByteArray) : Prop :=
  ∃ p c, v = .slice p xs.length c ∧ xs.length ≤ c ∧ (xs = [] ∨ ∃ bk o, p = some ⟨bk, o, none⟩ ∧ bk < B ∧ ∀ (j : Nat) x, xs[j]? = some x → w.cell? ⟨bk, o + j, none⟩ = some (.string x))
theorem StrsB.below {B : Nat} {w w' : World} {v : Value} {xs : List ByteArray} (h : StrsB B w v xs) (hb : Below B w w') : StrsB B w' v xs := by
  obtain ⟨p, c, hv, hc, h⟩ := h
  refine ⟨p, c, hv, hc, ?_⟩
  rcases h with h | ⟨bk, o, hp, hk, h⟩
  · exact .inl h
  · exact .inr ⟨bk, o, hp, hk, fun j x hx => (hb.cell (p := ⟨bk, o + j, none⟩) hk).trans (h j x hx)⟩
theorem Strs.bound {w : World} {v : Value} {xs : List ByteArray} (h : Strs w v xs) : StrsB w.heap.size w v xs := h
theorem StrsB.at {B : Nat} {w : World} {p : Option Addr} {n c : Nat} {x : ByteArray} {xs : List ByteArray} (h : StrsB B w (.slice p n c) (x :: xs)) :
    ∃ bk o, p = some ⟨bk, o, none⟩ ∧ bk < B ∧ n = xs.length + 1 ∧ xs.length + 1 ≤ c ∧ w.cell? ⟨bk, o, none⟩ = some (.string x) ∧ ∀ (j : Nat) y, xs[j]? = some y → w.cell? ⟨bk, o + 1 + j, none⟩ = some (.string y) := by
  obtain ⟨p', c', hv, hc, h⟩ := h
  cases hv
  rcases h with h | ⟨bk, o, hp, hk, h⟩
  · cases h
  · refine ⟨bk, o, hp, hk, rfl, hc, h 0 x rfl, fun j y hy => ?_⟩
    have := h (j + 1) y hy
    rwa [show o + (j + 1) = o + 1 + j by omega] at this
/-- what a walk does to the world: all below a bound stays, and all blocks that were there but the walk's own -/
def Upd (B wb : Nat) (w w' : World) : Prop := Below B w w' ∧ w.heap.size ≤ w'.heap.size ∧ ∀ g, g < w.heap.size → g ≠ wb → w'.heap[g]? = w.heap[g]?
theorem Upd.of_below {B wb : Nat} {w w' : World} (h : Below w.heap.size w w') (hB : B ≤ w.heap.size) : Upd B wb w w' := ⟨h.mono hB, h.size, fun g hg _ => h.block g hg⟩
theorem Upd.trans {B wb : Nat} {w w' w'' : World} (h : Upd B wb w w') (k : Upd B wb w' w'') : Upd B wb w w'' := ⟨h.1.trans k.1, Nat.le_trans h.2.1 k.2.1, fun g hg hne => (k.2.2 g (Nat.lt_of_lt_of_le hg h.2.1) hne).trans (h.2.2 g hg hne)⟩
theorem Upd.set {B wb : Nat} (w : World) (hB : B ≤ wb) (j : Nat) (v : Value) : Upd B wb w (w.setCell ⟨wb, j, none⟩ v) := ⟨(Below.refl _ _).setCell (p := ⟨wb, j, none⟩) hB v, by simp, fun g _ hne => Below.heap_setCell _ _ _ _ hne⟩
/-- items do not lie in a walk's block -/
theorem ReadsIn.otherW {w : World} {A : Nat → Prop} {v : Value} {xs : List Item} (h : ReadsIn w A v xs) {q : Nat} {a b : ByteArray} {u : Value} {t : TypeId} (hq : HasCells w q [.string a, u, .string b] t) (hu : ∃ p n c, u = .slice p n c) : ReadsIn w (fun g => A g ∧ g ≠ q) v xs := by
  obtain ⟨k, h⟩ := h
  refine ⟨k, ?_⟩
  induction k generalizing v xs with
  | zero => exact h.elim
  | succ k ih =>
    obtain ⟨p, cap, hv, hl, h⟩ := h
    refine ⟨p, cap, hv, hl, ?_⟩
    rcases h with h | ⟨g, o, hp, hg, h⟩
    · exact .inl h
    · cases xs with
      | nil => exact .inl rfl
      | cons y r =>
        refine .inr ⟨g, o, hp, ⟨hg, fun e => ?_⟩, fun i x hx => ?_⟩
        · subst e
          obtain ⟨h1, _⟩ := h 0 y rfl
          have hb : w.heap[g]? = _ := hq
          rw [World.cell?, hb] at h1
          obtain ⟨p2, n2, c2, rfl⟩ := hu
          simp only [List.getElem?_toArray] at h1
          have h4 := List.mem_of_getElem? h1
          simp at h4
        · obtain ⟨h1, h2, v', h3, h4⟩ := h i x hx
          exact ⟨h1, h2, v', h3, ih h4⟩
theorem Reads.upd {B wb : Nat} {w w' : World} {v : Value} {xs : List Item} (h : Reads w w.heap.size v xs) (hu : Upd B wb w w') {a b : ByteArray} {u : Value} {t : TypeId} (hq : HasCells w wb [.string a, u, .string b] t) (hs : ∃ p n c, u = .slice p n c) : Reads w' w'.heap.size v xs :=
  ReadsIn.kept (h.otherW hq hs) (fun g _ o hg hc => (World.cell?_of_block (a := ⟨g, o, none⟩) (hu.2.2 g hg.1 hg.2)).trans hc) (fun _ hg => Nat.lt_of_lt_of_le hg.1 hu.2.1)
/-- an item that lies below the heap's end and not in one block -/
def RZ (z : Nat) (w : World) (v : Value) (xs : List Item) : Prop := ReadsIn w (fun g => g < w.heap.size ∧ g ≠ z) v xs
theorem RZ.reads {z : Nat} {w : World} {v : Value} {xs : List Item} (h : RZ z w v xs) : Reads w w.heap.size v xs := ReadsIn.mono h (fun _ hg => hg.1)
theorem RZ.below {z : Nat} {w w' : World} {v : Value} {xs : List Item} (h : RZ z w v xs) (hb : Below w.heap.size w w') : RZ z w' v xs :=
  ReadsIn.kept h (fun g _ o hg hc => (hb.cell (p := ⟨g, o, none⟩) hg.1).trans hc) (fun _ hg => ⟨Nat.lt_of_lt_of_le hg.1 hb.size, hg.2⟩)
theorem RZ.upd {B wb z : Nat} {w w' : World} {v : Value} {xs : List Item} (h : RZ z w v xs) (hu : Upd B wb w w') {a b : ByteArray} {u : Value} {t : TypeId} (hq : HasCells w wb [.string a, u, .string b] t) (hs : ∃ p n c, u = .slice p n c) : RZ z w' v xs :=
  ReadsIn.kept (ReadsIn.otherW h hq hs) (fun g _ o hg hc => (World.cell?_of_block (a := ⟨g, o, none⟩) (hu.2.2 g hg.1.1 hg.2)).trans hc) (fun _ hg => ⟨Nat.lt_of_lt_of_le hg.1.1 hu.2.1, hg.1.2⟩)
/-- what the walk's node gives -/
def NodeRes (B wb z : Nat) (path vl : ByteArray) (r : Option (Item × List (List UInt8))) (w : World) (e : Ending) (w' : World) : Prop :=
  Upd B wb w w' ∧ match r with
  | none => ∃ b s p n c, e = .returned (.tuple #[.agg #[.bool b, .string s, .slice p n c], .bool false])
  | some (x, rest) => ∃ xp xn xc q c, e = .returned (.tuple #[.agg #[.bool x.isList, .string ⟨x.text.toArray⟩, .slice xp xn xc], .bool true]) ∧ RZ z w' (.slice xp xn xc) x.list ∧ Small x ∧
      HasCells w' wb [.string path, .slice q rest.length c, .string vl] 55 ∧ StrsB B w' (.slice q rest.length c) (rest.map bt)
theorem nodeOf_list {ref : Item} (h : ref.isList = true) (proof : List (List UInt8)) : nodeOf keccakL ref proof = if isNodeP ref then some (ref, proof) else none := by
  unfold nodeOf openP
  rw [if_pos h]
theorem nodeOf_nil {ref : Item} (h : ref.isList = false) : nodeOf keccakL ref [] = none := by
  unfold nodeOf openP
  rw [if_neg (by rw [h]; simp)]
theorem nodeOf_cons {ref : Item} (h : ref.isList = false) (s : List UInt8) (rest : List (List UInt8)) : nodeOf keccakL ref (s :: rest) = if keccakL s = ref.text ∧ (decode s).2 = 0 then (if isNodeP (decode s).1 then some ((decode s).1, rest) else none) else none := by
  unfold nodeOf openP
  rw [if_neg (by rw [h]; simp)]
  dsimp only
  by_cases hc : keccakL s = ref.text ∧ (decode s).2 = 0
  · rw [if_pos hc, if_pos hc]
  · rw [if_neg hc, if_neg hc]
set_option maxRecDepth 100000 in
set_option maxHeartbeats 6400000 in
/-- a reference that is a list -/
theorem walkNode_list (B wb z : Nat) (ref : Item) (p : Option Addr) (n c : Nat) (path vl : ByteArray) (proof : List (List UInt8)) (pp : Option Addr) (pc : Nat) (w : World) (hB : B ≤ w.heap.size) (_ : wb < w.heap.size) (hl : ref.isList = true) (hr : RZ z w (.slice p n c) ref.list) (hsm : Small ref)
    (hw : HasCells w wb [.string path, .slice pp proof.length pc, .string vl] 55) (hs : StrsB B w (.slice pp proof.length pc) (proof.map bt)) :
    Calls Tryd.prog 40 #[.pointer (some ⟨wb, 0, none⟩), .agg #[.bool ref.isList, .string ⟨ref.text.toArray⟩, .slice p n c]] w (NodeRes B wb z path vl (nodeOf keccakL ref proof) w) := by
  rw [nodeOf_list hl]
  have hlo := laid2 w (.cells #[.bool ref.isList, .string ⟨ref.text.toArray⟩, .slice p n c] 58) (.cells itemZ.toArray 58)
  have hq0 := (HasCells.new w [.bool ref.isList, .string ⟨ref.text.toArray⟩, .slice p n c] 58).alloc (.cells itemZ.toArray 58)
  have hz0 : HasCells ((w.alloc (.cells #[.bool ref.isList, .string ⟨ref.text.toArray⟩, .slice p n c] 58)).alloc (.cells itemZ.toArray 58)) (w.heap.size + 1) itemZ 58 := by
    have h := HasCells.new (w.alloc (.cells #[.bool ref.isList, .string ⟨ref.text.toArray⟩, .slice p n c] 58)) itemZ 58
    rwa [World.size_alloc] at h
  obtain ⟨w0, hw0⟩ : ∃ W, (w.alloc (.cells #[.bool ref.isList, .string ⟨ref.text.toArray⟩, .slice p n c] 58)).alloc (.cells itemZ.toArray 58) = W := ⟨_, rfl⟩
  rw [show (w.alloc (.cells ([.bool ref.isList, .string ⟨ref.text.toArray⟩, .slice p n c] : List Value).toArray 58)).alloc (.cells itemZ.toArray 58) = w0 from hw0] at hq0
  rw [hw0] at hz0 hlo
  have H1 := Lib.hid (fun W (hb : Below w.heap.size w W) => isNode_any ref _ W hsm (hr.below hb).reads)
  obtain ⟨np, hnp⟩ : ∃ b, isNodeP ref = b := ⟨_, rfl⟩
  obtain ⟨rr, hrr⟩ : ∃ r, (if isNodeP ref then some (ref, proof) else none) = r := ⟨_, rfl⟩
  rw [hrr]
  rw [hnp] at H1 hrr
  have HRR := Lib.hid hrr
  obtain ⟨t, htt⟩ : ∃ t, ref.text = t := ⟨_, rfl⟩
  have HW0 := Lib.hid (show (w.alloc (.cells #[.bool true, .string ⟨t.toArray⟩, .slice p n c] 58)).alloc (.cells #[.bool false, .string ⟨#[]⟩, .slice none 0 0] 58) = w0 from by rw [← htt, ← hl]; exact hw0)
  rw [hl, htt] at H1 hq0 ⊢
  have HL := Lib.hid hl
  have HTT := Lib.hid htt
  have HR := Lib.hid hr
  have HSM := Lib.hid hsm
  have HWC := Lib.hid hw
  have HSS := Lib.hid hs
  have HLO := Lib.hid hlo
  have HQ0 := Lib.hid hq0
  have HZ0 := Lib.hid hz0
  have HQF := Lib.hid (fun W (hb : Below w0.heap.size w0 W) => (show W.cell? ⟨w.heap.size, 0, none⟩ = some (.bool true) ∧ W.cell? ⟨w.heap.size, 1, none⟩ = some (.string ⟨t.toArray⟩) ∧ W.cell? ⟨w.heap.size, 2, none⟩ = some (.slice p n c) from
    ⟨(HQ0.out.after hb).cell (j := 0) rfl, (HQ0.out.after hb).cell (j := 1) rfl, (HQ0.out.after hb).cell (j := 2) rfl⟩))
  have c0 := HQ0.out.cell (j := 0) rfl
  clear hl hr hsm hw hs hlo hw0 hq0 hz0 hnp htt hrr
  go_enter Tryd.func40, Tryd.ntmps40
  go_wp2_with (rw [HW0.out])
  have b0 : Below w0.heap.size w0 w0.drew := (Below.refl _ _).drew
  refine wp_region_held_drew (S := (fun W => W.cell? ⟨w.heap.size, 0, none⟩ = some (.bool true) ∧ W.cell? ⟨w.heap.size, 1, none⟩ = some (.string ⟨t.toArray⟩) ∧ W.cell? ⟨w.heap.size, 2, none⟩ = some (.slice p n c))) (by kernel_rfl) (HQF.out _ b0) (fun hHeld => ?_)
  refine wpAnyH_take (i := 0) (v := ?_) rfl (by kernel_rfl) (by kernel_rfl) (by kernel_rfl) (fun _ _ _ h => h) (.inl ⟨by rfl, ?_⟩) (by assumption) ?_
  rotate_left 1
  · intro w0 hSw
    obtain ⟨z0, z1, z2⟩ := hSw
    go_simp <;> with_reducible rfl
  try simp only [Act.put, List.getElem_toArray, List.getElem_cons_zero, List.setIfInBounds_toArray, List.set_cons_zero, List.set_cons_succ]
  refine wpAnyH_take (i := 1) (v := ?_) rfl (by kernel_rfl) (by kernel_rfl) (by kernel_rfl) (fun _ _ _ h => h) (.inl ⟨by rfl, ?_⟩) (by assumption) ?_
  rotate_left 1
  · intro w0 hSw
    obtain ⟨z0, z1, z2⟩ := hSw
    go_simp <;> with_reducible rfl
  try simp only [Act.put, List.getElem_toArray, List.getElem_cons_zero, List.getElem_cons_succ, List.setIfInBounds_toArray, List.set_cons_zero, List.set_cons_succ]
  refine wpAnyH_ready (rs := [2]) (by kernel_rfl) (by simp) ?_
  refine AllReadyH.cons rfl (fun K hK => ?_) AllReadyH.nil
  go_simp
  go_at_call 62
  refine (H1.out _ (HLO.out.trans (b0.mono HLO.out.size))).mono ?_
  rintro e w1 ⟨rfl, hb1⟩
  have b1 := b0.trans (hb1.mono b0.size)
  have hz1 := HZ0.out.after b1
  have HZ1 := Lib.hid hz1
  have HB1 := Lib.hid (HLO.out.trans (b1.mono HLO.out.size))
  have e0 := hz1.cell (j := 0) rfl
  have e1 := hz1.cell (j := 1) rfl
  have e2 := hz1.cell (j := 2) rfl
  have f0 := hz1.frozen 0
  have f1 := hz1.frozen 1
  have f2 := hz1.frozen 2
  clear hz1 hb1
  refine hK.out _ _ (HQF.out _ b1) (fun hHeld => ?_)
  clear hK K
  try simp only [Act.put, List.getElem_toArray, List.getElem_cons_zero, List.getElem_cons_succ, List.setIfInBounds_toArray, List.set_cons_zero, List.set_cons_succ]
  refine wpAnyH_ready (rs := [3]) (by kernel_rfl) (by simp) ?_
  refine AllReadyH.cons rfl (fun K hK => ?_) AllReadyH.nil
  go_simp
  refine hK.out _ _ (⟨three_other hHeld.1 (by omega) _ _ _, three_other hHeld.2.1 (by omega) _ _ _, three_other hHeld.2.2 (by omega) _ _ _⟩) (fun hHeld => ?_)
  clear hK K
  try simp only [Act.put, List.getElem_toArray, List.getElem_cons_zero, List.getElem_cons_succ, List.setIfInBounds_toArray, List.set_cons_zero, List.set_cons_succ]
  refine wpAnyH_take (i := 4) (v := ?_) rfl (by kernel_rfl) (by kernel_rfl) (by kernel_rfl) (fun _ _ _ h => h) (.inl ⟨by rfl, ?_⟩) (by assumption) ?_
  rotate_left 1
  · intro w0 hSw
    go_simp <;> with_reducible rfl
  try simp only [Act.put, List.getElem_toArray, List.getElem_cons_zero, List.getElem_cons_succ, List.setIfInBounds_toArray, List.set_cons_zero, List.set_cons_succ]
  refine wpAnyH_done (by kernel_rfl) ?_ 0
  clear hHeld
  go_wp2_with fail
  have hf := ((HZ1.out.set 0 (.bool true)).set 1 (.string ⟨t.toArray⟩)).set 2 (.slice p n c)
  refine bodyPost_ret (results_cells2 rfl _ _ (w.heap.size + 1) [.bool true, .string ⟨t.toArray⟩, .slice p n c] _ (by rfl) hf.range Tryd.underlying58 rfl infoItemS) rfl ?_
  have hbf := ((HB1.out.setCell (p := ⟨w.heap.size + 1, 0, none⟩) (show w.heap.size ≤ w.heap.size + 1 by omega) (.bool true)).setCell (p := ⟨w.heap.size + 1, 1, none⟩) (show w.heap.size ≤ w.heap.size + 1 by omega) (.string ⟨t.toArray⟩)).setCell (p := ⟨w.heap.size + 1, 2, none⟩) (show w.heap.size ≤ w.heap.size + 1 by omega) (.slice p n c)
  refine ⟨Upd.of_below hbf hB, ?_⟩
  rw [← HRR.out]
  cases np with
  | false =>
    rw [if_neg (by simp)]
    exact ⟨true, _, p, n, c, by rfl⟩
  | true =>
    rw [if_pos rfl]
    exact ⟨p, n, c, pp, pc, by rw [HL.out, HTT.out]; rfl, HR.out.below hbf, HSM.out, HWC.out.after hbf, HSS.out.below (hbf.mono hB)⟩
end Go.Proofs.YthicdhnjincflaaDoor
/- Contract of the walk's node at a reference that is a text. -/
namespace Go.Proofs.YthicdhnjincflaaDoor
open Go.RowKit Go.Shelf Go.Lib
attribute [local go_sem] Oper.semAt_some

theorem kecOne_l {l k : List UInt8} (hk : keccakL l = k) (bk ob : Nat) (W : World) (hc : W.cell? ⟨bk, ob, none⟩ = some (.string ⟨l.toArray⟩)) (hlen : l.length ≤ 1099511627776) (hK : KecT W) : Calls Tryd.prog 37 #[.slice (some ⟨bk, ob, none⟩) 1 1] W fun e w' => e = .returned (.string ⟨k.toArray⟩) ∧ Below W.heap.size W w' := by
  subst hk
  have hl : lettersOf [(⟨l.toArray⟩ : ByteArray)] = l := by simp [lettersOf]
  have h := kecSum_any (.slice (some ⟨bk, ob, none⟩) 1 1) [⟨l.toArray⟩] W ⟨_, _, rfl, Nat.le_refl 1, .inr ⟨bk, ob, rfl, World.block_lt_of_cell? W _ hc, fun j x hx => by
    match j, hx with
    | 0, hx => cases hx; exact hc⟩⟩ (by simp) (by rw [hl]; exact hlen) hK
  rw [hl] at h
  exact h
set_option maxRecDepth 100000 in
set_option maxHeartbeats 6400000 in
/-- a reference that is a text, and no text is left -/
theorem walkNode_nil (B wb z : Nat) (ref : Item) (p : Option Addr) (n c : Nat) (path vl : ByteArray) (pp : Option Addr) (pc : Nat) (w : World) (hB : B ≤ w.heap.size) (hl : ref.isList = false)
    (hw : HasCells w wb [.string path, .slice pp 0 pc, .string vl] 55) :
    Calls Tryd.prog 40 #[.pointer (some ⟨wb, 0, none⟩), .agg #[.bool ref.isList, .string ⟨ref.text.toArray⟩, .slice p n c]] w (NodeRes B wb z path vl (nodeOf keccakL ref []) w) := by
  rw [nodeOf_nil hl]
  have hlo := laid2 w (.cells #[.bool ref.isList, .string ⟨ref.text.toArray⟩, .slice p n c] 58) (.cells itemZ.toArray 58)
  have hq0 := (HasCells.new w [.bool ref.isList, .string ⟨ref.text.toArray⟩, .slice p n c] 58).alloc (.cells itemZ.toArray 58)
  have hz0 : HasCells ((w.alloc (.cells #[.bool ref.isList, .string ⟨ref.text.toArray⟩, .slice p n c] 58)).alloc (.cells itemZ.toArray 58)) (w.heap.size + 1) itemZ 58 := by
    have h := HasCells.new (w.alloc (.cells #[.bool ref.isList, .string ⟨ref.text.toArray⟩, .slice p n c] 58)) itemZ 58
    rwa [World.size_alloc] at h
  obtain ⟨w0, hw0⟩ : ∃ W, (w.alloc (.cells #[.bool ref.isList, .string ⟨ref.text.toArray⟩, .slice p n c] 58)).alloc (.cells itemZ.toArray 58) = W := ⟨_, rfl⟩
  have hsz0 : w0.heap.size = w.heap.size + 2 := by rw [← hw0]; simp
  rw [show (w.alloc (.cells ([.bool ref.isList, .string ⟨ref.text.toArray⟩, .slice p n c] : List Value).toArray 58)).alloc (.cells itemZ.toArray 58) = w0 from hw0] at hq0
  rw [hw0] at hz0 hlo
  have hw00 := hw.after hlo
  have hwb := hw.lt
  obtain ⟨t, htt⟩ : ∃ t, ref.text = t := ⟨_, rfl⟩
  have HW0 := Lib.hid (show (w.alloc (.cells #[.bool false, .string ⟨t.toArray⟩, .slice p n c] 58)).alloc (.cells #[.bool false, .string ⟨#[]⟩, .slice none 0 0] 58) = w0 from by have hw1 := hw0; rw [hl, htt] at hw1; exact hw1)
  rw [hl, htt] at hq0 ⊢
  have HL := Lib.hid hl
  have HTT := Lib.hid htt
  have HWC := Lib.hid hw
  have HWC0 := Lib.hid hw00
  have HLO := Lib.hid hlo
  have HQ0 := Lib.hid hq0
  have HZ0 := Lib.hid hz0
  have HSZ := Lib.hid hsz0
  have c0 := HQ0.out.cell (j := 0) rfl
  clear hl hw hlo hw0 hq0 hz0 htt hw00 hsz0
  have HQF := Lib.hid (fun W (hb : Below w0.heap.size w0 W) => (show W.cell? ⟨wb, 1, none⟩ = some (.slice pp 0 pc) from
    (HWC0.out.after hb).cell (j := 1) rfl))
  go_enter Tryd.func40, Tryd.ntmps40
  go_wp2_with (rw [HW0.out])
  have b0 : Below w0.heap.size w0 w0.drew := (Below.refl _ _).drew
  refine wp_region_held_drew (S := (fun W => W.cell? ⟨wb, 1, none⟩ = some (.slice pp 0 pc))) (by kernel_rfl) (HQF.out _ b0) (fun hHeld => ?_)
  refine wpAnyH_take (i := 0) (v := ?_) rfl (by kernel_rfl) (by kernel_rfl) (by kernel_rfl) (fun _ _ _ h => h) (.inl ⟨by rfl, ?_⟩) (by assumption) ?_
  rotate_left 1
  · intro w0 hSw
    go_simp <;> with_reducible rfl
  try simp only [Act.put, List.getElem_toArray, List.getElem_cons_zero, List.setIfInBounds_toArray, List.set_cons_zero, List.set_cons_succ]
  refine wpAnyH_take (i := 1) (v := ?_) rfl (by kernel_rfl) (by kernel_rfl) (by kernel_rfl) (fun _ _ _ h => h) (.inl ⟨by rfl, ?_⟩) (by assumption) ?_
  rotate_left 1
  · intro w0 hSw
    go_simp <;> with_reducible rfl
  try simp only [Act.put, List.getElem_toArray, List.getElem_cons_zero, List.getElem_cons_succ, List.setIfInBounds_toArray, List.set_cons_zero, List.set_cons_succ]
  refine wpAnyH_take (i := 2) (v := ?_) rfl (by kernel_rfl) (by kernel_rfl) (by kernel_rfl) (fun _ _ _ h => h) (.inl ⟨by rfl, ?_⟩) (by assumption) ?_
  rotate_left 1
  · intro w0 hSw
    go_simp <;> with_reducible rfl
  try simp only [Act.put, List.getElem_toArray, List.getElem_cons_zero, List.getElem_cons_succ, List.setIfInBounds_toArray, List.set_cons_zero, List.set_cons_succ]
  refine wpAnyH_take (i := 3) (v := ?_) rfl (by kernel_rfl) (by kernel_rfl) (by kernel_rfl) (fun _ _ _ h => h) (.inl ⟨by rfl, ?_⟩) (by assumption) ?_
  rotate_left 1
  · intro w0 hSw
    have z0 := hSw
    go_simp <;> with_reducible rfl
  try simp only [Act.put, List.getElem_toArray, List.getElem_cons_zero, List.getElem_cons_succ, List.setIfInBounds_toArray, List.set_cons_zero, List.set_cons_succ]
  refine wpAnyH_take (i := 4) (v := ?_) rfl (by kernel_rfl) (by kernel_rfl) (by kernel_rfl) (fun _ _ _ h => h) (.inl ⟨by rfl, ?_⟩) (by assumption) ?_
  rotate_left 1
  · intro w0 hSw
    go_simp <;> with_reducible rfl
  try simp only [Act.put, List.getElem_toArray, List.getElem_cons_zero, List.getElem_cons_succ, List.setIfInBounds_toArray, List.set_cons_zero, List.set_cons_succ]
  refine wpAnyH_take (i := 5) (v := ?_) rfl (by kernel_rfl) (by kernel_rfl) (by kernel_rfl) (fun _ _ _ h => h) (.inl ⟨by rfl, ?_⟩) (by assumption) ?_
  rotate_left 1
  · intro w0 hSw
    go_simp <;> with_reducible rfl
  try simp only [Act.put, List.getElem_toArray, List.getElem_cons_zero, List.getElem_cons_succ, List.setIfInBounds_toArray, List.set_cons_zero, List.set_cons_succ]
  refine wpAnyH_take (i := 6) (v := ?_) rfl (by kernel_rfl) (by kernel_rfl) (by kernel_rfl) (fun _ _ _ h => h) (.inl ⟨by rfl, ?_⟩) (by assumption) ?_
  rotate_left 1
  · intro w0 hSw
    go_simp <;> with_reducible rfl
  try simp only [Act.put, List.getElem_toArray, List.getElem_cons_zero, List.getElem_cons_succ, List.setIfInBounds_toArray, List.set_cons_zero, List.set_cons_succ]
  refine wpAnyH_take (i := 7) (v := undef) rfl (by kernel_rfl) (by kernel_rfl) (by kernel_rfl) (fun _ _ _ h => h) (.inr ⟨by rfl, rfl⟩) (by assumption) ?_
  try simp only [Act.put, List.getElem_toArray, List.getElem_cons_zero, List.getElem_cons_succ, List.setIfInBounds_toArray, List.set_cons_zero, List.set_cons_succ]
  refine wpAnyH_take (i := 8) (v := undef) rfl (by kernel_rfl) (by kernel_rfl) (by kernel_rfl) (fun _ _ _ h => h) (.inr ⟨by rfl, rfl⟩) (by assumption) ?_
  try simp only [Act.put, List.getElem_toArray, List.getElem_cons_zero, List.getElem_cons_succ, List.setIfInBounds_toArray, List.set_cons_zero, List.set_cons_succ]
  refine wpAnyH_take (i := 9) (v := undef) rfl (by kernel_rfl) (by kernel_rfl) (by kernel_rfl) (fun _ _ _ h => h) (.inr ⟨by rfl, rfl⟩) (by assumption) ?_
  try simp only [Act.put, List.getElem_toArray, List.getElem_cons_zero, List.getElem_cons_succ, List.setIfInBounds_toArray, List.set_cons_zero, List.set_cons_succ]
  refine wpAnyH_take (i := 10) (v := undef) rfl (by kernel_rfl) (by kernel_rfl) (by kernel_rfl) (fun _ _ _ h => h) (.inr ⟨by rfl, rfl⟩) (by assumption) ?_
  try simp only [Act.put, List.getElem_toArray, List.getElem_cons_zero, List.getElem_cons_succ, List.setIfInBounds_toArray, List.set_cons_zero, List.set_cons_succ]
  refine wpAnyH_take (i := 11) (v := undef) rfl (by kernel_rfl) (by kernel_rfl) (by kernel_rfl) (fun _ _ _ h => h) (.inr ⟨by rfl, rfl⟩) (by assumption) ?_
  try simp only [Act.put, List.getElem_toArray, List.getElem_cons_zero, List.getElem_cons_succ, List.setIfInBounds_toArray, List.set_cons_zero, List.set_cons_succ]
  refine wpAnyH_take (i := 12) (v := undef) rfl (by kernel_rfl) (by kernel_rfl) (by kernel_rfl) (fun _ _ _ h => h) (.inr ⟨by rfl, rfl⟩) (by assumption) ?_
  try simp only [Act.put, List.getElem_toArray, List.getElem_cons_zero, List.getElem_cons_succ, List.setIfInBounds_toArray, List.set_cons_zero, List.set_cons_succ]
  refine wpAnyH_take (i := 13) (v := undef) rfl (by kernel_rfl) (by kernel_rfl) (by kernel_rfl) (fun _ _ _ h => h) (.inr ⟨by rfl, rfl⟩) (by assumption) ?_
  try simp only [Act.put, List.getElem_toArray, List.getElem_cons_zero, List.getElem_cons_succ, List.setIfInBounds_toArray, List.set_cons_zero, List.set_cons_succ]
  refine wpAnyH_take (i := 14) (v := undef) rfl (by kernel_rfl) (by kernel_rfl) (by kernel_rfl) (fun _ _ _ h => h) (.inr ⟨by rfl, rfl⟩) (by assumption) ?_
  try simp only [Act.put, List.getElem_toArray, List.getElem_cons_zero, List.getElem_cons_succ, List.setIfInBounds_toArray, List.set_cons_zero, List.set_cons_succ]
  refine wpAnyH_take (i := 15) (v := undef) rfl (by kernel_rfl) (by kernel_rfl) (by kernel_rfl) (fun _ _ _ h => h) (.inr ⟨by rfl, rfl⟩) (by assumption) ?_
  try simp only [Act.put, List.getElem_toArray, List.getElem_cons_zero, List.getElem_cons_succ, List.setIfInBounds_toArray, List.set_cons_zero, List.set_cons_succ]
  refine wpAnyH_take (i := 16) (v := undef) rfl (by kernel_rfl) (by kernel_rfl) (by kernel_rfl) (fun _ _ _ h => h) (.inr ⟨by rfl, rfl⟩) (by assumption) ?_
  try simp only [Act.put, List.getElem_toArray, List.getElem_cons_zero, List.getElem_cons_succ, List.setIfInBounds_toArray, List.set_cons_zero, List.set_cons_succ]
  refine wpAnyH_take (i := 17) (v := undef) rfl (by kernel_rfl) (by kernel_rfl) (by kernel_rfl) (fun _ _ _ h => h) (.inr ⟨by rfl, rfl⟩) (by assumption) ?_
  try simp only [Act.put, List.getElem_toArray, List.getElem_cons_zero, List.getElem_cons_succ, List.setIfInBounds_toArray, List.set_cons_zero, List.set_cons_succ]
  refine wpAnyH_take (i := 18) (v := ?_) rfl (by kernel_rfl) (by kernel_rfl) (by kernel_rfl) (fun _ _ _ h => h) (.inl ⟨by rfl, ?_⟩) (by assumption) ?_
  rotate_left 1
  · intro w0 hSw
    go_simp <;> with_reducible rfl
  try simp only [Act.put, List.getElem_toArray, List.getElem_cons_zero, List.getElem_cons_succ, List.setIfInBounds_toArray, List.set_cons_zero, List.set_cons_succ]
  refine wpAnyH_done (by kernel_rfl) ?_ 0
  clear hHeld
  have f0 := HZ0.out.frozen 0
  have f1 := HZ0.out.frozen 1
  have f2 := HZ0.out.frozen 2
  have e0 := HZ0.out.cell (j := 0) rfl
  have e1 := HZ0.out.cell (j := 1) rfl
  have e2 := HZ0.out.cell (j := 2) rfl
  go_wp2_with fail
  have hf := ((HZ0.out.set 0 (.bool false)).set 1 (.string ⟨#[]⟩)).set 2 (.slice none 0 0)
  refine bodyPost_ret (results_cells2 rfl _ _ (w.heap.size + 1) [.bool false, .string ⟨#[]⟩, .slice none 0 0] _ (by rfl) (HasCells.kept hf rfl).range Tryd.underlying58 rfl infoItemS) rfl ?_
  have hbf := ((HLO.out.setCell (p := ⟨w.heap.size + 1, 0, none⟩) (show w.heap.size ≤ w.heap.size + 1 by omega) (.bool false)).setCell (p := ⟨w.heap.size + 1, 1, none⟩) (show w.heap.size ≤ w.heap.size + 1 by omega) (.string ⟨#[]⟩)).setCell (p := ⟨w.heap.size + 1, 2, none⟩) (show w.heap.size ≤ w.heap.size + 1 by omega) (.slice none 0 0)
  exact ⟨Upd.of_below hbf.drew hB, false, _, _, _, _, by rfl⟩
set_option maxRecDepth 100000 in
set_option maxHeartbeats 6400000 in
/-- a reference that is a text, and there is a text -/
theorem walkNode_cons (B wb z : Nat) (ref : Item) (p : Option Addr) (n c : Nat) (path vl : ByteArray) (s : List UInt8) (rest : List (List UInt8)) (pp : Option Addr) (pc : Nat) (w : World) (hB : B ≤ w.heap.size) (hBw : B ≤ wb) (hz : z < w.heap.size) (hl : ref.isList = false) (hlen : s.length ≤ 1099511627776) (hlp : rest.length ≤ 1099511627776)
    (hw : HasCells w wb [.string path, .slice pp (rest.length + 1) pc, .string vl] 55) (hs : StrsB B w (.slice pp (rest.length + 1) pc) (bt s :: rest.map bt)) (hK : ∀ W, Below B w W → KecT W) :
    Calls Tryd.prog 40 #[.pointer (some ⟨wb, 0, none⟩), .agg #[.bool ref.isList, .string ⟨ref.text.toArray⟩, .slice p n c]] w (NodeRes B wb z path vl (nodeOf keccakL ref (s :: rest)) w) := by
  obtain ⟨bk, ob, rfl, hbk, -, hpc, hs0, hss⟩ := hs.at
  have hs0 : w.cell? ⟨bk, ob, none⟩ = some (.string ⟨s.toArray⟩) := hs0
  rw [List.length_map] at hpc
  obtain ⟨k, hk⟩ : ∃ k, keccakL s = k := ⟨_, rfl⟩
  obtain ⟨rr, hrr⟩ : ∃ r, nodeOf keccakL ref (s :: rest) = r := ⟨_, rfl⟩
  rw [hrr]
  rw [nodeOf_cons hl, hk] at hrr
  have HRR := Lib.hid hrr
  have HKS := Lib.hid hk
  have HKT := Lib.hid hK
  have HSS := Lib.hid hss
  have HS0 := Lib.hid hs0
  clear hrr hs hss hs0 hk hK
  have hlo := laid2 w (.cells #[.bool ref.isList, .string ⟨ref.text.toArray⟩, .slice p n c] 58) (.cells itemZ.toArray 58)
  have hq0 := (HasCells.new w [.bool ref.isList, .string ⟨ref.text.toArray⟩, .slice p n c] 58).alloc (.cells itemZ.toArray 58)
  have hz0 : HasCells ((w.alloc (.cells #[.bool ref.isList, .string ⟨ref.text.toArray⟩, .slice p n c] 58)).alloc (.cells itemZ.toArray 58)) (w.heap.size + 1) itemZ 58 := by
    have h := HasCells.new (w.alloc (.cells #[.bool ref.isList, .string ⟨ref.text.toArray⟩, .slice p n c] 58)) itemZ 58
    rwa [World.size_alloc] at h
  obtain ⟨w0, hw0⟩ : ∃ W, (w.alloc (.cells #[.bool ref.isList, .string ⟨ref.text.toArray⟩, .slice p n c] 58)).alloc (.cells itemZ.toArray 58) = W := ⟨_, rfl⟩
  have hsz0 : w0.heap.size = w.heap.size + 2 := by rw [← hw0]; simp
  rw [show (w.alloc (.cells ([.bool ref.isList, .string ⟨ref.text.toArray⟩, .slice p n c] : List Value).toArray 58)).alloc (.cells itemZ.toArray 58) = w0 from hw0] at hq0
  rw [hw0] at hz0 hlo
  have hw00 := hw.after hlo
  have hwb := hw.lt
  obtain ⟨t, htt⟩ : ∃ t, ref.text = t := ⟨_, rfl⟩
  have HW0 := Lib.hid (show (w.alloc (.cells #[.bool false, .string ⟨t.toArray⟩, .slice p n c] 58)).alloc (.cells #[.bool false, .string ⟨#[]⟩, .slice none 0 0] 58) = w0 from by have hw1 := hw0; rw [hl, htt] at hw1; exact hw1)
  rw [hl, htt] at hq0 ⊢
  have HL := Lib.hid hl
  have HTT := Lib.hid htt
  have HWC := Lib.hid hw
  have HWC0 := Lib.hid hw00
  have HLO := Lib.hid hlo
  have HQ0 := Lib.hid hq0
  have HZ0 := Lib.hid hz0
  have HSZ := Lib.hid hsz0
  have c0 := HQ0.out.cell (j := 0) rfl
  clear hl hw hlo hw0 hq0 hz0 htt hw00 hsz0
  have HQF := Lib.hid (fun W (hb : Below w0.heap.size w0 W) => (show W.cell? ⟨wb, 1, none⟩ = some (.slice (some ⟨bk, ob, none⟩) (rest.length + 1) pc) ∧ W.cell? ⟨w.heap.size, 1, none⟩ = some (.string ⟨t.toArray⟩) ∧ W.cell? ⟨bk, ob, none⟩ = some (.string ⟨s.toArray⟩) from
    ⟨(HWC0.out.after hb).cell (j := 1) rfl, (HQ0.out.after hb).cell (j := 1) rfl, (hb.cell (p := ⟨bk, ob, none⟩) (Nat.lt_of_lt_of_le hbk (Nat.le_trans hB HLO.out.size))).trans ((HLO.out.cell (p := ⟨bk, ob, none⟩) (Nat.lt_of_lt_of_le hbk hB)).trans HS0.out)⟩))
  have hnz : ((rest.length : Int) + 1 == 0) = false := by
    rw [beq_eq_false_iff_ne]
    omega
  go_enter Tryd.func40, Tryd.ntmps40
  go_wp2_with (rw [HW0.out])
  have b0 : Below w0.heap.size w0 w0.drew := (Below.refl _ _).drew
  refine wp_region_held_drew (S := (fun W => W.cell? ⟨wb, 1, none⟩ = some (.slice (some ⟨bk, ob, none⟩) (rest.length + 1) pc) ∧ W.cell? ⟨w.heap.size, 1, none⟩ = some (.string ⟨t.toArray⟩) ∧ W.cell? ⟨bk, ob, none⟩ = some (.string ⟨s.toArray⟩))) (by kernel_rfl) (HQF.out _ b0) (fun hHeld => ?_)
  refine wpAnyH_take (i := 0) (v := ?_) rfl (by kernel_rfl) (by kernel_rfl) (by kernel_rfl) (fun _ _ _ h => h) (.inl ⟨by rfl, ?_⟩) (by assumption) ?_
  rotate_left 1
  · intro w0 hSw
    go_simp <;> with_reducible rfl
  try simp only [Act.put, List.getElem_toArray, List.getElem_cons_zero, List.setIfInBounds_toArray, List.set_cons_zero, List.set_cons_succ]
  refine wpAnyH_take (i := 1) (v := ?_) rfl (by kernel_rfl) (by kernel_rfl) (by kernel_rfl) (fun _ _ _ h => h) (.inl ⟨by rfl, ?_⟩) (by assumption) ?_
  rotate_left 1
  · intro w0 hSw
    go_simp <;> with_reducible rfl
  try simp only [Act.put, List.getElem_toArray, List.getElem_cons_zero, List.getElem_cons_succ, List.setIfInBounds_toArray, List.set_cons_zero, List.set_cons_succ]
  refine wpAnyH_take (i := 2) (v := ?_) rfl (by kernel_rfl) (by kernel_rfl) (by kernel_rfl) (fun _ _ _ h => h) (.inl ⟨by rfl, ?_⟩) (by assumption) ?_
  rotate_left 1
  · intro w0 hSw
    go_simp <;> with_reducible rfl
  try simp only [Act.put, List.getElem_toArray, List.getElem_cons_zero, List.getElem_cons_succ, List.setIfInBounds_toArray, List.set_cons_zero, List.set_cons_succ]
  refine wpAnyH_take (i := 3) (v := ?_) rfl (by kernel_rfl) (by kernel_rfl) (by kernel_rfl) (fun _ _ _ h => h) (.inl ⟨by rfl, ?_⟩) (by assumption) ?_
  rotate_left 1
  · intro w0 hSw
    obtain ⟨z0, z1, z2⟩ := hSw
    go_simp <;> with_reducible rfl
  try simp only [Act.put, List.getElem_toArray, List.getElem_cons_zero, List.getElem_cons_succ, List.setIfInBounds_toArray, List.set_cons_zero, List.set_cons_succ]
  refine wpAnyH_take (i := 4) (v := ?_) rfl (by kernel_rfl) (by kernel_rfl) (by kernel_rfl) (fun _ _ _ h => h) (.inl ⟨by rfl, ?_⟩) (by assumption) ?_
  rotate_left 1
  · intro w0 hSw
    go_simp <;> with_reducible rfl
  try simp only [Act.put, List.getElem_toArray, List.getElem_cons_zero, List.getElem_cons_succ, List.setIfInBounds_toArray, List.set_cons_zero, List.set_cons_succ]
  refine wpAnyH_take (i := 5) (v := ?_) rfl (by kernel_rfl) (by kernel_rfl) (by kernel_rfl) (fun _ _ _ h => h) (.inl ⟨by rfl, ?_⟩) (by assumption) ?_
  rotate_left 1
  · intro w0 hSw
    go_simp <;> with_reducible rfl
  try simp only [Act.put, List.getElem_toArray, List.getElem_cons_zero, List.getElem_cons_succ, List.setIfInBounds_toArray, List.set_cons_zero, List.set_cons_succ]
  refine wpAnyH_take (i := 6) (v := ?_) rfl (by kernel_rfl) (by kernel_rfl) (by kernel_rfl) (fun _ _ _ h => h) (.inl ⟨by rfl, ?_⟩) (by assumption) ?_
  rotate_left 1
  · intro w0 hSw
    go_simp <;> with_reducible rfl
  try simp only [Act.put, List.getElem_toArray, List.getElem_cons_zero, List.getElem_cons_succ, List.setIfInBounds_toArray, List.set_cons_zero, List.set_cons_succ]
  refine wpAnyH_take (i := 7) (v := ?_) rfl (by kernel_rfl) (by kernel_rfl) (by kernel_rfl) (fun _ _ _ h => h) (.inl ⟨by rfl, ?_⟩) (by assumption) ?_
  rotate_left 1
  · intro w0 hSw
    go_simp <;> with_reducible rfl
  try simp only [Act.put, List.getElem_toArray, List.getElem_cons_zero, List.getElem_cons_succ, List.setIfInBounds_toArray, List.set_cons_zero, List.set_cons_succ]
  refine wpAnyH_take (i := 8) (v := ?_) rfl (by kernel_rfl) (by kernel_rfl) (by kernel_rfl) (fun _ _ _ h => h) (.inl ⟨by rfl, ?_⟩) (by assumption) ?_
  rotate_left 1
  · intro w0 hSw
    go_simp <;> with_reducible rfl
  try simp only [Act.put, List.getElem_toArray, List.getElem_cons_zero, List.getElem_cons_succ, List.setIfInBounds_toArray, List.set_cons_zero, List.set_cons_succ]
  refine wpAnyH_take (i := 9) (v := ?_) rfl (by kernel_rfl) (by kernel_rfl) (by kernel_rfl) (fun _ _ _ h => h) (.inl ⟨by rfl, ?_⟩) (by assumption) ?_
  rotate_left 1
  · intro w0 hSw
    go_simp <;> with_reducible rfl
  try simp only [Act.put, List.getElem_toArray, List.getElem_cons_zero, List.getElem_cons_succ, List.setIfInBounds_toArray, List.set_cons_zero, List.set_cons_succ]
  refine wpAnyH_take (i := 10) (v := ?_) rfl (by kernel_rfl) (by kernel_rfl) (by kernel_rfl) (fun _ _ _ h => h) (.inl ⟨by rfl, ?_⟩) (by assumption) ?_
  rotate_left 1
  · intro w0 hSw
    obtain ⟨z0, z1, z2⟩ := hSw
    go_simp <;> with_reducible rfl
  try simp only [Act.put, List.getElem_toArray, List.getElem_cons_zero, List.getElem_cons_succ, List.setIfInBounds_toArray, List.set_cons_zero, List.set_cons_succ]
  refine wpAnyH_take (i := 11) (v := ?_) rfl (by kernel_rfl) (by kernel_rfl) (by kernel_rfl) (fun _ _ _ h => h) (.inl ⟨by rfl, ?_⟩) (by assumption) ?_
  rotate_left 1
  · intro w0 hSw
    go_simp <;> with_reducible rfl
  try simp only [Act.put, List.getElem_toArray, List.getElem_cons_zero, List.getElem_cons_succ, List.setIfInBounds_toArray, List.set_cons_zero, List.set_cons_succ]
  refine wpAnyH_take (i := 12) (v := ?_) rfl (by kernel_rfl) (by kernel_rfl) (by kernel_rfl) (fun _ _ _ h => h) (.inl ⟨by rfl, ?_⟩) (by assumption) ?_
  rotate_left 1
  · intro w0 hSw
    obtain ⟨z0, z1, z2⟩ := hSw
    go_simp <;> with_reducible rfl
  try simp only [Act.put, List.getElem_toArray, List.getElem_cons_zero, List.getElem_cons_succ, List.setIfInBounds_toArray, List.set_cons_zero, List.set_cons_succ]
  refine wpAnyH_take (i := 15) (v := ?_) rfl (by kernel_rfl) (by kernel_rfl) (by kernel_rfl) (fun _ _ _ h => h) (.inl ⟨by rfl, ?_⟩) (by assumption) ?_
  rotate_left 1
  · intro w0 hSw
    go_simp <;> with_reducible rfl
  try simp only [Act.put, List.getElem_toArray, List.getElem_cons_zero, List.getElem_cons_succ, List.setIfInBounds_toArray, List.set_cons_zero, List.set_cons_succ]
  refine wpAnyH_take (i := 16) (v := ?_) rfl (by kernel_rfl) (by kernel_rfl) (by kernel_rfl) (fun _ _ _ h => h) (.inl ⟨by rfl, ?_⟩) (by assumption) ?_
  rotate_left 1
  · intro w0 hSw
    obtain ⟨z0, z1, z2⟩ := hSw
    go_simp <;> with_reducible rfl
  try simp only [Act.put, List.getElem_toArray, List.getElem_cons_zero, List.getElem_cons_succ, List.setIfInBounds_toArray, List.set_cons_zero, List.set_cons_succ]
  refine wpAnyH_ready (rs := [13]) (by kernel_rfl) (by simp) ?_
  refine AllReadyH.cons rfl (fun K hK => ?_) AllReadyH.nil
  go_simp
  have b1 := (laid1 w0 (.cells #[.string ⟨s.toArray⟩] 9)).drew
  have q1 : (w0.alloc (.cells #[.string ⟨s.toArray⟩] 9)).drew.cell? ⟨w0.heap.size, 0, none⟩ = some (.string ⟨s.toArray⟩) := by simp
  obtain ⟨w1, hw1⟩ : ∃ W, (w0.alloc (.cells #[.string ⟨s.toArray⟩] 9)).drew = W := ⟨_, rfl⟩
  rw [hw1] at b1 q1 ⊢
  have HW1 := Lib.hid hw1
  have hsz1 : w1.heap.size = w0.heap.size + 1 := by rw [← hw1]; simp
  have HS1 := Lib.hid hsz1
  clear hsz1 hw1
  refine hK.out _ _ (HQF.out _ b1) (fun hHeld => ?_)
  clear hK K
  try simp only [Act.put, List.getElem_toArray, List.getElem_cons_zero, List.getElem_cons_succ, List.setIfInBounds_toArray, List.set_cons_zero, List.set_cons_succ]
  refine wpAnyH_ready (rs := [14]) (by kernel_rfl) (by simp) ?_
  refine AllReadyH.cons rfl (fun K hK => ?_) AllReadyH.nil
  go_simp
  go_at_call 37
  refine (kecOne_l HKS.out w0.heap.size 0 _ q1 hlen (HKT.out _ ((HLO.out.mono hB).trans (b1.mono (Nat.le_trans hB HLO.out.size))))).mono ?_
  rintro e w2 ⟨rfl, hb2⟩
  have b2 := b1.trans (hb2.mono b1.size)
  refine hK.out _ _ (HQF.out _ b2) (fun hHeld => ?_)
  clear hK K
  try simp only [Act.put, List.getElem_toArray, List.getElem_cons_zero, List.getElem_cons_succ, List.setIfInBounds_toArray, List.set_cons_zero, List.set_cons_succ]
  refine wpAnyH_take (i := 17) (v := ?_) rfl (by kernel_rfl) (by kernel_rfl) (by kernel_rfl) (fun _ _ _ h => h) (.inl ⟨by rfl, ?_⟩) (by assumption) ?_
  rotate_left 1
  · intro w0 hSw
    go_simp <;> with_reducible rfl
  try simp only [Act.put, List.getElem_toArray, List.getElem_cons_zero, List.getElem_cons_succ, List.setIfInBounds_toArray, List.set_cons_zero, List.set_cons_succ]
  refine wpAnyH_take (i := 18) (v := ?_) rfl (by kernel_rfl) (by kernel_rfl) (by kernel_rfl) (fun _ _ _ h => h) (.inl ⟨by rfl, ?_⟩) (by assumption) ?_
  rotate_left 1
  · intro w0 hSw
    go_simp <;> with_reducible rfl
  try simp only [Act.put, List.getElem_toArray, List.getElem_cons_zero, List.getElem_cons_succ, List.setIfInBounds_toArray, List.set_cons_zero, List.set_cons_succ]
  refine wpAnyH_done (by kernel_rfl) ?_ 0
  clear hHeld
  obtain ⟨eq, heq⟩ : ∃ b, (k == t) = b := ⟨_, rfl⟩
  rw [heq]
  have HEQ := Lib.hid heq
  have HB2 := Lib.hid b2
  have HZ2 := Lib.hid (HZ0.out.after b2)
  have HQ2 := Lib.hid (HQ0.out.after b2)
  have HW2 := Lib.hid (HWC0.out.after b2)
  have HS2 := Lib.hid ((b2.cell (p := ⟨bk, ob, none⟩) (Nat.lt_of_lt_of_le hbk (Nat.le_trans hB HLO.out.size))).trans ((HLO.out.cell (p := ⟨bk, ob, none⟩) (Nat.lt_of_lt_of_le hbk hB)).trans HS0.out))
  have hz2 : w.heap.size + 2 ≤ w2.heap.size := by have := b2.size; have := HSZ.out; omega
  have HSZ2 := Lib.hid hz2
  clear heq b1 b2 hb2 q1 HQF HS1 HW1 hz2
  cases eq with
  | false =>
    have f0 := HZ2.out.frozen 0
    have f1 := HZ2.out.frozen 1
    have f2 := HZ2.out.frozen 2
    have e0 := HZ2.out.cell (j := 0) rfl
    have e1 := HZ2.out.cell (j := 1) rfl
    have e2 := HZ2.out.cell (j := 2) rfl
    go_wp2_with fail
    have hf := ((HZ2.out.set 0 (.bool false)).set 1 (.string ⟨#[]⟩)).set 2 (.slice none 0 0)
    refine bodyPost_ret (results_cells2 rfl _ _ (w.heap.size + 1) [.bool false, .string ⟨#[]⟩, .slice none 0 0] _ (by rfl) (HasCells.kept hf rfl).range Tryd.underlying58 rfl infoItemS) rfl ?_
    have hbf := ((Below.setCell (HLO.out.trans (HB2.out.mono HLO.out.size)) (p := ⟨w.heap.size + 1, 0, none⟩) (show w.heap.size ≤ w.heap.size + 1 by omega) (.bool false)).setCell (p := ⟨w.heap.size + 1, 1, none⟩) (show w.heap.size ≤ w.heap.size + 1 by omega) (.string ⟨#[]⟩)).setCell (p := ⟨w.heap.size + 1, 2, none⟩) (show w.heap.size ≤ w.heap.size + 1 by omega) (.slice none 0 0)
    have hrr : rr = none := by
      rw [← HRR.out, if_neg]
      rintro ⟨h1, -⟩
      have h2 := HEQ.out
      rw [h1, HTT.out] at h2
      simp at h2
    rw [hrr]
    exact ⟨Upd.of_below hbf hB, false, _, _, _, _, by rfl⟩
  | true =>
    have z0 := HW2.out.cell (j := 1) rfl
    have z1 := HS2.out
    go_wp2_with fail
    refine (decodeNew_any s _ hlen).mono ?_
    rintro e w3 ⟨hb3, x, ce, xp, xc, rfl, hdec, hrd⟩
    have HW3 := Lib.hid (HW2.out.after hb3)
    have HQ3 := Lib.hid (HQ2.out.after hb3)
    have HZ3 := Lib.hid (HZ2.out.after hb3)
    have HSZ3 := Lib.hid (Nat.le_trans HSZ2.out hb3.size)
    have HRD : Hid (RIn w3 w2.heap.size (.slice xp x.list.length xc) x.list) := hrd
    have HL3 := Lib.hid (HLO.out.trans ((HB2.out.trans (hb3.mono HB2.out.size)).mono HLO.out.size))
    obtain ⟨E, hE⟩ : ∃ b, (ce != 0) = b := ⟨_, rfl⟩
    have HE := Lib.hid hE
    have hz4 := HZ3.out.alloc (.cells #[.bool x.isList, .string ⟨x.text.toArray⟩, .slice xp x.list.length xc] 58)
    have b4 := HL3.out.trans ((laid1 w3 (.cells #[.bool x.isList, .string ⟨x.text.toArray⟩, .slice xp x.list.length xc] 58)).mono HL3.out.size)
    have f0 := hz4.frozen 0
    have f1 := hz4.frozen 1
    have f2 := hz4.frozen 2
    have e0 := hz4.cell (j := 0) rfl
    have e1 := hz4.cell (j := 1) rfl
    have e2 := hz4.cell (j := 2) rfl
    clear z0 z1 hb3 hrd
    cases E with
    | true =>
      go_wp2_with fail
      obtain ⟨w4, hal⟩ : ∃ W, w3.alloc (.cells #[.bool x.isList, .string ⟨x.text.toArray⟩, .slice xp x.list.length xc] 58) = W := ⟨_, rfl⟩
      rw [hal] at hz4 b4 ⊢
      have hf := ((hz4.set 0 (.bool false)).set 1 (.string ⟨#[]⟩)).set 2 (.slice none 0 0)
      refine bodyPost_ret (results_cells2 rfl _ _ (w.heap.size + 1) [.bool false, .string ⟨#[]⟩, .slice none 0 0] _ (by rfl) (HasCells.kept hf rfl).range Tryd.underlying58 rfl infoItemS) rfl ?_
      have hbf := ((Below.setCell b4 (p := ⟨w.heap.size + 1, 0, none⟩) (show w.heap.size ≤ w.heap.size + 1 by omega) (.bool false)).setCell (p := ⟨w.heap.size + 1, 1, none⟩) (show w.heap.size ≤ w.heap.size + 1 by omega) (.string ⟨#[]⟩)).setCell (p := ⟨w.heap.size + 1, 2, none⟩) (show w.heap.size ≤ w.heap.size + 1 by omega) (.slice none 0 0)
      have hrr : rr = none := by
        rw [← HRR.out, if_neg]
        rintro ⟨-, h2⟩
        rw [hdec.out] at h2
        have h3 := HE.out
        rw [show ce = 0 from h2] at h3
        simp at h3
      rw [hrr]
      exact ⟨Upd.of_below hbf hB, false, _, _, _, _, by rfl⟩
    | false =>
      go_wp2_with fail
      obtain ⟨w4, hal⟩ : ∃ W, w3.alloc (.cells #[.bool x.isList, .string ⟨x.text.toArray⟩, .slice xp x.list.length xc] 58) = W := ⟨_, rfl⟩
      rw [hal] at b4 hz4 ⊢
      have hw4 := HW3.out.alloc (.cells #[.bool x.isList, .string ⟨x.text.toArray⟩, .slice xp x.list.length xc] 58)
      have hq4 := HQ3.out.alloc (.cells #[.bool x.isList, .string ⟨x.text.toArray⟩, .slice xp x.list.length xc] 58)
      have hn4 := HasCells.new w3 [.bool x.isList, .string ⟨x.text.toArray⟩, .slice xp x.list.length xc] 58
      rw [show w3.alloc (.cells ([.bool x.isList, .string ⟨x.text.toArray⟩, .slice xp x.list.length xc] : List Value).toArray 58) = w4 from hal] at hn4
      rw [hal] at hw4 hq4
      have hr4 : RIn w4 w2.heap.size (.slice xp x.list.length xc) x.list := by rw [← hal]; exact HRD.out.below (laid1 w3 _)
      have hs4 : w4.heap.size = w3.heap.size + 1 := by rw [← hal]; simp
      have HW4 := Lib.hid hw4
      have HQ4 := Lib.hid hq4
      have HN4 := Lib.hid hn4
      have HZ4 := Lib.hid hz4
      have HR4 := Lib.hid hr4
      have HB4 := Lib.hid b4
      have HS4 := Lib.hid hs4
      clear hal hw4 hq4 hn4 hr4 hz4 b4 f0 f1 f2 e0 e1 e2 hs4
      have h1le : (1 : Int) ≤ (rest.length : Int) + 1 := by omega
      have HSF := Lib.hid (show w4.cell? ⟨wb, 1, none⟩ = some (.slice (some ⟨bk, ob, none⟩) (rest.length + 1) pc) ∧ w4.cell? ⟨w3.heap.size, 0, none⟩ = some (.bool x.isList) ∧ w4.cell? ⟨w3.heap.size, 1, none⟩ = some (.string ⟨x.text.toArray⟩) ∧ w4.cell? ⟨w3.heap.size, 2, none⟩ = some (.slice xp x.list.length xc) from ⟨HW4.out.cell (j := 1) rfl, HN4.out.cell (j := 0) rfl, HN4.out.cell (j := 1) rfl, HN4.out.cell (j := 2) rfl⟩)
      refine wp_region_L (fun Ls w' => Ls.getD 10 true = false → w'.cell? ⟨wb, 1, none⟩ = some (.slice (some ⟨bk, ob, none⟩) (rest.length + 1) pc) ∧ w'.cell? ⟨w3.heap.size, 0, none⟩ = some (.bool x.isList) ∧ w'.cell? ⟨w3.heap.size, 1, none⟩ = some (.string ⟨x.text.toArray⟩) ∧ w'.cell? ⟨w3.heap.size, 2, none⟩ = some (.slice xp x.list.length xc)) (by kernel_rfl) ?_
      refine wpAnyL_take (i := 0) (v := ?_) (fuel := 10) rfl (by kernel_rfl) (by kernel_rfl) (by kernel_rfl) (by kernel_rfl) (fun _ _ _ h => h) (fun Ls w' => by rw [getD_set_ne true (by omega)]) (fun _ => HSF.out) (.inl ⟨by rfl, ?_⟩) ?_
      rotate_left 1
      · rintro w' ⟨Ls, hcl, h0, hS⟩
        clear hS hcl h0
        go_simp <;> with_reducible rfl
      try simp only [Act.put, List.getElem_toArray, List.getElem_cons_zero, List.setIfInBounds_toArray, List.set_cons_zero, List.set_cons_succ]
      refine wpAnyL_take (i := 1) (v := ?_) (fuel := 9) rfl (by kernel_rfl) (by kernel_rfl) (by kernel_rfl) (by kernel_rfl) (fun _ _ _ h => h) (fun Ls w' => by rw [getD_set_ne true (by omega)]) (fun _ => HSF.out) (.inl ⟨by rfl, ?_⟩) ?_
      rotate_left 1
      · rintro w' ⟨Ls, hcl, h0, hS⟩
        have hSw := hS (closedB_before hcl (i := 1) (by kernel_rfl) h0)
        obtain ⟨z0, z1, z2, z3⟩ := hSw
        clear hS hcl h0
        go_simp <;> with_reducible rfl
      try simp only [Act.put, List.getElem_toArray, List.getElem_cons_zero, List.getElem_cons_succ, List.setIfInBounds_toArray, List.set_cons_zero, List.set_cons_succ]
      refine wpAnyL_take (i := 2) (v := ?_) (fuel := 8) rfl (by kernel_rfl) (by kernel_rfl) (by kernel_rfl) (by kernel_rfl) (fun _ _ _ h => h) (fun Ls w' => by rw [getD_set_ne true (by omega)]) (fun _ => HSF.out) (.inl ⟨by rfl, ?_⟩) ?_
      rotate_left 1
      · rintro w' ⟨Ls, hcl, h0, hS⟩
        clear hS hcl h0
        go_simp <;> with_reducible rfl
      try simp only [Act.put, List.getElem_toArray, List.getElem_cons_zero, List.getElem_cons_succ, List.setIfInBounds_toArray, List.set_cons_zero, List.set_cons_succ]
      refine wpAnyL_take (i := 3) (v := ?_) (fuel := 7) rfl (by kernel_rfl) (by kernel_rfl) (by kernel_rfl) (by kernel_rfl) (fun _ _ _ h => h) (fun Ls w' => by rw [getD_set_ne true (by omega)]) (fun _ => HSF.out) (.inl ⟨by rfl, ?_⟩) ?_
      rotate_left 1
      · rintro w' ⟨Ls, hcl, h0, hS⟩
        clear hS hcl h0
        go_simp <;> with_reducible rfl
      try simp only [Act.put, List.getElem_toArray, List.getElem_cons_zero, List.getElem_cons_succ, List.setIfInBounds_toArray, List.set_cons_zero, List.set_cons_succ]
      refine wpAnyL_take (i := 4) (v := ?_) (fuel := 6) rfl (by kernel_rfl) (by kernel_rfl) (by kernel_rfl) (by kernel_rfl) (fun _ _ _ h => h) (fun Ls w' => by rw [getD_set_ne true (by omega)]) (fun _ => HSF.out) (.inl ⟨by rfl, ?_⟩) ?_
      rotate_left 1
      · rintro w' ⟨Ls, hcl, h0, hS⟩
        clear hS hcl h0
        go_simp <;> with_reducible rfl
      try simp only [Act.put, List.getElem_toArray, List.getElem_cons_zero, List.getElem_cons_succ, List.setIfInBounds_toArray, List.set_cons_zero, List.set_cons_succ]
      refine wpAnyL_take (i := 5) (v := ?_) (fuel := 5) rfl (by kernel_rfl) (by kernel_rfl) (by kernel_rfl) (by kernel_rfl) (fun _ _ _ h => h) (fun Ls w' => by rw [getD_set_ne true (by omega)]) (fun _ => HSF.out) (.inl ⟨by rfl, ?_⟩) ?_
      rotate_left 1
      · rintro w' ⟨Ls, hcl, h0, hS⟩
        have hSw := hS (closedB_before hcl (i := 5) (by kernel_rfl) h0)
        obtain ⟨z0, z1, z2, z3⟩ := hSw
        clear hS hcl h0
        go_simp <;> with_reducible rfl
      try simp only [Act.put, List.getElem_toArray, List.getElem_cons_zero, List.getElem_cons_succ, List.setIfInBounds_toArray, List.set_cons_zero, List.set_cons_succ]
      refine wpAnyL_take (i := 6) (v := ?_) (fuel := 4) rfl (by kernel_rfl) (by kernel_rfl) (by kernel_rfl) (by kernel_rfl) (fun _ _ _ h => h) (fun Ls w' => by rw [getD_set_ne true (by omega)]) (fun _ => HSF.out) (.inl ⟨by rfl, ?_⟩) ?_
      rotate_left 1
      · rintro w' ⟨Ls, hcl, h0, hS⟩
        clear hS hcl h0
        go_simp <;> with_reducible rfl
      try simp only [Act.put, List.getElem_toArray, List.getElem_cons_zero, List.getElem_cons_succ, List.setIfInBounds_toArray, List.set_cons_zero, List.set_cons_succ]
      have g0 := HQ4.out.cell (j := 0) rfl
      have g1 := HQ4.out.cell (j := 1) rfl
      have g2 := HQ4.out.cell (j := 2) rfl
      have k0 := HQ4.out.frozen 0
      have k1 := HQ4.out.frozen 1
      have k2 := HQ4.out.frozen 2
      obtain ⟨Q, hQ⟩ : ∃ v, (if pc = 1 then some ⟨bk, ob, none⟩ else some ⟨bk, ob + 1, none⟩ : Option Addr) = v := ⟨_, rfl⟩
      rw [hQ]
      have HQQ := Lib.hid hQ
      clear hQ
      refine wpAnyL_one (i := 7) (fuel := 3) (by kernel_rfl) rfl (fun K hK => ?_)
      go_simp
      obtain ⟨w5, h5⟩ : ∃ W, (((w4.setCell ⟨w.heap.size, 0, none⟩ (.bool x.isList)).setCell ⟨w.heap.size, 1, none⟩ (.string ⟨x.text.toArray⟩)).setCell ⟨w.heap.size, 2, none⟩ (.slice xp x.list.length xc)).drew = W := ⟨_, rfl⟩
      rw [h5]
      have t1 := HSZ3.out
      have t2 := HSZ2.out
      have HQ5 : Hid (HasCells w5 w.heap.size [.bool x.isList, .string ⟨x.text.toArray⟩, .slice xp x.list.length xc] 58) := Lib.hid (by rw [← h5]; exact HasCells.kept (((HQ4.out.set 0 _).set 1 _).set 2 _) rfl)
      have HW5 : Hid (HasCells w5 wb _ _) := Lib.hid (by rw [← h5]; exact HasCells.kept (((HW4.out.setOther (i := 0) (show wb ≠ w.heap.size by omega) _).setOther (i := 1) (show wb ≠ w.heap.size by omega) _).setOther (i := 2) (show wb ≠ w.heap.size by omega) _) rfl)
      have HN5 : Hid (HasCells w5 w3.heap.size _ _) := Lib.hid (by rw [← h5]; exact HasCells.kept (((HN4.out.setOther (i := 0) (show w3.heap.size ≠ w.heap.size by omega) _).setOther (i := 1) (show w3.heap.size ≠ w.heap.size by omega) _).setOther (i := 2) (show w3.heap.size ≠ w.heap.size by omega) _) rfl)
      have HZ5 : Hid (HasCells w5 (w.heap.size + 1) _ _) := Lib.hid (by rw [← h5]; exact HasCells.kept (((HZ4.out.setOther (i := 0) (show w.heap.size + 1 ≠ w.heap.size by omega) _).setOther (i := 1) (show w.heap.size + 1 ≠ w.heap.size by omega) _).setOther (i := 2) (show w.heap.size + 1 ≠ w.heap.size by omega) _) rfl)
      have HR5 : Hid (RIn w5 w2.heap.size (.slice xp x.list.length xc) x.list) := Lib.hid (by rw [← h5]; exact ReadsIn.kept (((HR4.out.store (j := 0) (show w.heap.size < w2.heap.size by omega) _).store (j := 1) (show w.heap.size < w2.heap.size by omega) _).store (j := 2) (show w.heap.size < w2.heap.size by omega) _) (fun _ _ _ _ hc => hc) (fun _ hg => hg))
      have HB5 : Hid (Below w.heap.size w w5) := Lib.hid (by rw [← h5]; exact (((HB4.out.setCell (p := ⟨w.heap.size, 0, none⟩) (Nat.le_refl _) _).setCell (p := ⟨w.heap.size, 1, none⟩) (Nat.le_refl _) _).setCell (p := ⟨w.heap.size, 2, none⟩) (Nat.le_refl _) _).drew)
      have HS5 : Hid (w5.heap.size = w3.heap.size + 1) := Lib.hid (by rw [← h5, ← HS4.out]; simp)
      clear h5 t1 t2 g0 g1 g2 k0 k1 k2
      have HSF5 := Lib.hid (show w5.cell? ⟨wb, 1, none⟩ = some (.slice (some ⟨bk, ob, none⟩) (rest.length + 1) pc) ∧ w5.cell? ⟨w3.heap.size, 0, none⟩ = some (.bool x.isList) ∧ w5.cell? ⟨w3.heap.size, 1, none⟩ = some (.string ⟨x.text.toArray⟩) ∧ w5.cell? ⟨w3.heap.size, 2, none⟩ = some (.slice xp x.list.length xc) from ⟨HW5.out.cell (j := 1) rfl, HN5.out.cell (j := 0) rfl, HN5.out.cell (j := 1) rfl, HN5.out.cell (j := 2) rfl⟩)
      refine hK.out _ _ (fun h => HSF5.out) (fun _ => ?_)
      clear hK K
      try simp only [Act.put, List.getElem_toArray, List.getElem_cons_zero, List.getElem_cons_succ, List.setIfInBounds_toArray, List.set_cons_zero, List.set_cons_succ]
      refine wpAnyL_take (i := 8) (v := ?_) (fuel := 2) rfl (by kernel_rfl) (by kernel_rfl) (by kernel_rfl) (by kernel_rfl) (fun _ _ _ h => h) (fun Ls w' => by rw [getD_set_ne true (by omega)]) (fun _ => HSF5.out) (.inl ⟨by rfl, ?_⟩) ?_
      rotate_left 1
      · rintro w' ⟨Ls, hcl, h0, hS⟩
        clear hS hcl h0
        go_simp <;> with_reducible rfl
      try simp only [Act.put, List.getElem_toArray, List.getElem_cons_zero, List.getElem_cons_succ, List.setIfInBounds_toArray, List.set_cons_zero, List.set_cons_succ]
      refine wpAnyL_take (i := 9) (v := ?_) (fuel := 1) rfl (by kernel_rfl) (by kernel_rfl) (by kernel_rfl) (by kernel_rfl) (fun _ _ _ h => h) (fun Ls w' => by rw [getD_set_ne true (by omega)]) (fun _ => HSF5.out) (.inl ⟨by rfl, ?_⟩) ?_
      rotate_left 1
      · rintro w' ⟨Ls, hcl, h0, hS⟩
        clear hS hcl h0
        go_simp <;> with_reducible rfl
      try simp only [Act.put, List.getElem_toArray, List.getElem_cons_zero, List.getElem_cons_succ, List.setIfInBounds_toArray, List.set_cons_zero, List.set_cons_succ]
      have g1 := HW5.out.cell (j := 1) rfl
      have k1 := HW5.out.frozen 1
      refine wpAnyL_one (i := 10) (fuel := 0) (by kernel_rfl) rfl (fun K hK => ?_)
      go_simp
      refine hK.out _ _ (fun h => (by cases h)) (fun _ => ?_)
      clear hK K
      try simp only [Act.put, List.getElem_toArray, List.getElem_cons_zero, List.getElem_cons_succ, List.setIfInBounds_toArray, List.set_cons_zero, List.set_cons_succ]
      refine wpAnyL_done (by kernel_rfl) ?_ 0
      go_wp2_with fail
      obtain ⟨w6, h6⟩ : ∃ W, w5.setCell ⟨wb, 1, none⟩ (.slice Q rest.length (pc - 1)) = W := ⟨_, rfl⟩
      rw [h6]
      have HW6 : Hid (HasCells w6 wb [.string path, .slice Q rest.length (pc - 1), .string vl] 55) := Lib.hid (by rw [← h6]; exact HW5.out.set 1 _)
      have HQ6 : Hid (HasCells w6 w.heap.size [.bool x.isList, .string ⟨x.text.toArray⟩, .slice xp x.list.length xc] 58) := Lib.hid (by rw [← h6]; exact HQ5.out.setOther (show w.heap.size ≠ wb by omega) _)
      have HZ6 : Hid (HasCells w6 (w.heap.size + 1) itemZ 58) := Lib.hid (by rw [← h6]; exact HZ5.out.setOther (show w.heap.size + 1 ≠ wb by omega) _)
      have HR6 : Hid (RIn w6 w2.heap.size (.slice xp x.list.length xc) x.list) := Lib.hid (by rw [← h6]; exact HR5.out.store (show wb < w2.heap.size by have := HSZ2.out; omega) _)
      have HU6 : Hid (Upd B wb w w6) := Lib.hid ((Upd.of_below HB5.out hB).trans (by rw [← h6]; exact Upd.set w5 hBw 1 _))
      have HS6 : Hid (StrsB B w6 (.slice Q rest.length (pc - 1)) (rest.map bt)) := Lib.hid (by
        refine ⟨Q, pc - 1, by rw [List.length_map], by rw [List.length_map]; omega, ?_⟩
        by_cases hr : rest = []
        · exact .inl (by rw [hr]; rfl)
        · have hp := List.length_pos_iff.2 hr
          refine .inr ⟨bk, ob + 1, by rw [← HQQ.out, if_neg (by omega)], hbk, fun j y hy => ?_⟩
          exact (HU6.out.1.cell (p := ⟨bk, ob + 1 + j, none⟩) hbk).trans (HSS.out j y hy))
      have hce : ce = 0 := by have h := HE.out; simpa using h
      have hsm : Small x := decode_ok (s := s) (by rw [hdec.out, hce])
      have hrr : (if isNodeP x then some (x, rest) else none) = rr := by
        have h1 : k = ref.text ∧ (decode s).2 = 0 := ⟨by have h := HEQ.out; rw [HTT.out]; simpa using h, by rw [hdec.out]; exact hce⟩
        have h2 := HRR.out
        rw [if_pos h1, hdec.out] at h2
        exact h2
      obtain ⟨np, hnp⟩ : ∃ b, isNodeP x = b := ⟨_, rfl⟩
      have H1 := Lib.hid (fun W (hb : Below w6.heap.size w6 W) => isNode_any x _ W hsm (HR6.out.below hb).reads)
      rw [hnp] at H1 hrr
      have HRX := Lib.hid hrr
      have HSM := Lib.hid hsm
      have HQF := Lib.hid (fun W (hb : Below w6.heap.size w6 W) => (show W.cell? ⟨w.heap.size, 0, none⟩ = some (.bool x.isList) ∧ W.cell? ⟨w.heap.size, 1, none⟩ = some (.string ⟨x.text.toArray⟩) ∧ W.cell? ⟨w.heap.size, 2, none⟩ = some (.slice xp x.list.length xc) from ⟨(HQ6.out.after hb).cell (j := 0) rfl, (HQ6.out.after hb).cell (j := 1) rfl, (HQ6.out.after hb).cell (j := 2) rfl⟩))
      have hS8 : w.heap.size + 2 ≤ w6.heap.size := by rw [← h6, World.size_setCell, HS5.out]; have := HSZ3.out; omega
      have HS8 := Lib.hid hS8
      clear h6 hS8 hsm hrr hce hnp g1 k1
      have b0 : Below w6.heap.size w6 w6.drew := (Below.refl _ _).drew
      refine wp_region_held_drew (S := (fun W => W.cell? ⟨w.heap.size, 0, none⟩ = some (.bool x.isList) ∧ W.cell? ⟨w.heap.size, 1, none⟩ = some (.string ⟨x.text.toArray⟩) ∧ W.cell? ⟨w.heap.size, 2, none⟩ = some (.slice xp x.list.length xc))) (by kernel_rfl) (HQF.out _ b0) (fun hHeld => ?_)
      refine wpAnyH_take (i := 0) (v := ?_) rfl (by kernel_rfl) (by kernel_rfl) (by kernel_rfl) (fun _ _ _ h => h) (.inl ⟨by rfl, ?_⟩) (by assumption) ?_
      rotate_left 1
      · intro w0 hSw
        obtain ⟨z0, z1, z2⟩ := hSw
        go_simp <;> with_reducible rfl
      try simp only [Act.put, List.getElem_toArray, List.getElem_cons_zero, List.setIfInBounds_toArray, List.set_cons_zero, List.set_cons_succ]
      refine wpAnyH_take (i := 1) (v := ?_) rfl (by kernel_rfl) (by kernel_rfl) (by kernel_rfl) (fun _ _ _ h => h) (.inl ⟨by rfl, ?_⟩) (by assumption) ?_
      rotate_left 1
      · intro w0 hSw
        obtain ⟨z0, z1, z2⟩ := hSw
        go_simp <;> with_reducible rfl
      try simp only [Act.put, List.getElem_toArray, List.getElem_cons_zero, List.getElem_cons_succ, List.setIfInBounds_toArray, List.set_cons_zero, List.set_cons_succ]
      refine wpAnyH_ready (rs := [2]) (by kernel_rfl) (by simp) ?_
      refine AllReadyH.cons rfl (fun K hK => ?_) AllReadyH.nil
      go_simp
      go_at_call 62
      refine (H1.out _ b0).mono ?_
      rintro e w7 ⟨rfl, hb7⟩
      have b7 := b0.trans (hb7.mono b0.size)
      have hz7 := HZ6.out.after b7
      have HZ7 := Lib.hid hz7
      have HB7 := Lib.hid b7
      have HSZ8 := Lib.hid (Nat.le_trans HS8.out b7.size)
      have e0 := hz7.cell (j := 0) rfl
      have e1 := hz7.cell (j := 1) rfl
      have e2 := hz7.cell (j := 2) rfl
      have f0 := hz7.frozen 0
      have f1 := hz7.frozen 1
      have f2 := hz7.frozen 2
      clear hz7 hb7
      refine hK.out _ _ (HQF.out _ b7) (fun hHeld => ?_)
      clear hK K
      try simp only [Act.put, List.getElem_toArray, List.getElem_cons_zero, List.getElem_cons_succ, List.setIfInBounds_toArray, List.set_cons_zero, List.set_cons_succ]
      refine wpAnyH_ready (rs := [3]) (by kernel_rfl) (by simp) ?_
      refine AllReadyH.cons rfl (fun K hK => ?_) AllReadyH.nil
      go_simp
      refine hK.out _ _ (⟨three_other hHeld.1 (by omega) _ _ _, three_other hHeld.2.1 (by omega) _ _ _, three_other hHeld.2.2 (by omega) _ _ _⟩) (fun hHeld => ?_)
      clear hK K
      try simp only [Act.put, List.getElem_toArray, List.getElem_cons_zero, List.getElem_cons_succ, List.setIfInBounds_toArray, List.set_cons_zero, List.set_cons_succ]
      refine wpAnyH_take (i := 4) (v := ?_) rfl (by kernel_rfl) (by kernel_rfl) (by kernel_rfl) (fun _ _ _ h => h) (.inl ⟨by rfl, ?_⟩) (by assumption) ?_
      rotate_left 1
      · intro w0 hSw
        go_simp <;> with_reducible rfl
      try simp only [Act.put, List.getElem_toArray, List.getElem_cons_zero, List.getElem_cons_succ, List.setIfInBounds_toArray, List.set_cons_zero, List.set_cons_succ]
      refine wpAnyH_done (by kernel_rfl) ?_ 0
      clear hHeld
      go_wp2_with fail
      have hf := ((HZ7.out.set 0 (.bool x.isList)).set 1 (.string ⟨x.text.toArray⟩)).set 2 (.slice xp x.list.length xc)
      refine bodyPost_ret (results_cells2 rfl _ _ (w.heap.size + 1) [.bool x.isList, .string ⟨x.text.toArray⟩, .slice xp x.list.length xc] _ (by rfl) hf.range Tryd.underlying58 rfl infoItemS) rfl ?_
      have t2 := HSZ2.out
      have hbf := (((HB7.out.mono (show w.heap.size ≤ w6.heap.size by have := HS8.out; omega)).setCell (p := ⟨w.heap.size + 1, 0, none⟩) (show w.heap.size ≤ w.heap.size + 1 by omega) (.bool x.isList)).setCell (p := ⟨w.heap.size + 1, 1, none⟩) (show w.heap.size ≤ w.heap.size + 1 by omega) (.string ⟨x.text.toArray⟩)).setCell (p := ⟨w.heap.size + 1, 2, none⟩) (show w.heap.size ≤ w.heap.size + 1 by omega) (.slice xp x.list.length xc)
      have hrf := (((HR6.out.below HB7.out).store (g := w.heap.size + 1) (j := 0) (show w.heap.size + 1 < w2.heap.size by omega) (.bool x.isList)).store (g := w.heap.size + 1) (j := 1) (show w.heap.size + 1 < w2.heap.size by omega) (.string ⟨x.text.toArray⟩)).store (g := w.heap.size + 1) (j := 2) (show w.heap.size + 1 < w2.heap.size by omega) (.slice xp x.list.length xc)
      have hne : wb ≠ w.heap.size + 1 := by omega
      have hwf := (((HW6.out.after HB7.out).setOther (i := 0) hne (.bool x.isList)).setOther (i := 1) hne (.string ⟨x.text.toArray⟩)).setOther (i := 2) hne (.slice xp x.list.length xc)
      refine ⟨⟨HU6.out.1.trans (hbf.mono hB), Nat.le_trans HU6.out.2.1 hbf.size, fun g hg hne => (hbf.block g hg).trans (HU6.out.2.2 g hg hne)⟩, ?_⟩
      rw [← HRX.out]
      cases np with
      | false =>
        rw [if_neg (by simp)]
        exact ⟨_, _, _, _, _, by rfl⟩
      | true =>
        rw [if_pos rfl]
        exact ⟨xp, x.list.length, xc, Q, pc - 1, by rfl, ReadsIn.mono hrf (fun g hg => ⟨hg.2, by have := hg.1; omega⟩), HSM.out, hwf, HS6.out.below (hbf.mono hB)⟩
end Go.Proofs.YthicdhnjincflaaDoor

/- Contract of the walk's step. -/
namespace Go.Proofs.YthicdhnjincflaaDoor
open Go.RowKit Go.Shelf Go.Lib
attribute [local go_sem] Oper.semAt_some

theorem Upd.above {B wb : Nat} {w w' W : World} (h : Upd B wb w w') (hb : Below w.heap.size w' W) (hB : B ≤ w.heap.size) : Upd B wb w W :=
  ⟨h.1.trans (hb.mono hB), Nat.le_trans h.2.1 hb.size, fun g hg hne => (hb.block g hg).trans (h.2.2 g hg hne)⟩
/-- three stores in a block above -/
theorem three_at {B g : Nat} {w w' : World} (h : Below B w w') (hg : B ≤ g) (v0 v1 v2 : Value) : Below B w (((w'.setCell ⟨g, 0, none⟩ v0).setCell ⟨g, 1, none⟩ v1).setCell ⟨g, 2, none⟩ v2) :=
  ((h.setCell (p := ⟨g, 0, none⟩) hg v0).setCell (p := ⟨g, 1, none⟩) hg v1).setCell (p := ⟨g, 2, none⟩) hg v2
theorem HasCells.threeOther {W : World} {q g : Nat} {cs : List Value} {t : TypeId} (h : HasCells W q cs t) (hne : q ≠ g) (v0 v1 v2 : Value) : HasCells (((W.setCell ⟨g, 0, none⟩ v0).setCell ⟨g, 1, none⟩ v1).setCell ⟨g, 2, none⟩ v2) q cs t :=
  ((h.setOther hne v0).setOther hne v1).setOther hne v2
theorem bt_head (h : UInt8) (tl : List UInt8) (hp : 0 < (⟨(h :: tl).toArray⟩ : ByteArray).size) : (⟨(h :: tl).toArray⟩ : ByteArray)[0]'hp = h := rfl
theorem bt_tail (h : UInt8) (tl : List UInt8) : (⟨(h :: tl).toArray⟩ : ByteArray).extract 1 (tl.length + 1) = ⟨tl.toArray⟩ := by
  have e := cut_both (h :: tl) 1 tl.length
  rw [Nat.add_comm] at e
  simpa using e
/-- what a walk's step gives -/
def StepRes (B wb z : Nat) (pv : Value) (r : Way) (w : World) (e : Ending) (w' : World) : Prop :=
  Upd B wb w w' ∧ match r with
  | .stop v => ∃ b s p n c path, e = .returned (.tuple #[.agg #[.bool b, .string s, .slice p n c], .bool false]) ∧ HasCells w' wb [.string path, pv, .string (bt v)] 55
  | .next y p => ∃ xp xn xc, e = .returned (.tuple #[.agg #[.bool y.isList, .string ⟨y.text.toArray⟩, .slice xp xn xc], .bool true]) ∧ RZ z w' (.slice xp xn xc) y.list ∧
      HasCells w' wb [.string (bt p), pv, .string ⟨#[]⟩] 55
set_option maxRecDepth 100000 in
set_option maxHeartbeats 6400000 in
/-- a branch, and no path is left -/
theorem walkStep_end (B wb z : Nat) (x : Item) (p : Option Addr) (c : Nat) (pp : Option Addr) (pn pc : Nat) (w : World) (hB : B ≤ w.heap.size) (hBw : B ≤ wb) (hl : x.isList = true) (h17 : x.list.length = 17) (hr : RZ z w (.slice p 17 c) x.list)
    (hw : HasCells w wb [.string ⟨#[]⟩, .slice pp pn pc, .string ⟨#[]⟩] 55) :
    Calls Tryd.prog 41 #[.pointer (some ⟨wb, 0, none⟩), .agg #[.bool x.isList, .string ⟨x.text.toArray⟩, .slice p 17 c]] w (StepRes B wb z (.slice pp pn pc) (stepP x []) w) := by
  rw [show stepP x [] = .stop (x.list.getD 16 .none).text from by unfold stepP; rw [if_pos h17]]
  obtain ⟨y, hy⟩ : ∃ y, x.list[16]? = some y := ⟨_, List.getElem?_eq_getElem (by omega)⟩
  rw [show x.list.getD 16 .none = y from by rw [List.getD_eq_getElem?_getD, hy]; rfl]
  obtain ⟨-, g, o, rfl, ⟨hg, -⟩, hat⟩ := ReadsIn.at hr (by decide)
  obtain ⟨-, a1, -⟩ := hat 16 y hy
  simp only [Nat.add_assoc, Nat.reduceMul, Nat.reduceAdd] at a1
  have hlo := laid2 w (.cells #[.bool x.isList, .string ⟨x.text.toArray⟩, .slice (some ⟨g, o, none⟩) 17 c] 58) (.cells itemZ.toArray 58)
  have hq0 := (HasCells.new w [.bool x.isList, .string ⟨x.text.toArray⟩, .slice (some ⟨g, o, none⟩) 17 c] 58).alloc (.cells itemZ.toArray 58)
  have hz0 : HasCells ((w.alloc (.cells #[.bool x.isList, .string ⟨x.text.toArray⟩, .slice (some ⟨g, o, none⟩) 17 c] 58)).alloc (.cells itemZ.toArray 58)) (w.heap.size + 1) itemZ 58 := by
    have h := HasCells.new (w.alloc (.cells #[.bool x.isList, .string ⟨x.text.toArray⟩, .slice (some ⟨g, o, none⟩) 17 c] 58)) itemZ 58
    rwa [World.size_alloc] at h
  obtain ⟨w0, hw0⟩ : ∃ W, (w.alloc (.cells #[.bool x.isList, .string ⟨x.text.toArray⟩, .slice (some ⟨g, o, none⟩) 17 c] 58)).alloc (.cells itemZ.toArray 58) = W := ⟨_, rfl⟩
  have hsz0 : w0.heap.size = w.heap.size + 2 := by rw [← hw0]; simp
  rw [show (w.alloc (.cells ([.bool x.isList, .string ⟨x.text.toArray⟩, .slice (some ⟨g, o, none⟩) 17 c] : List Value).toArray 58)).alloc (.cells itemZ.toArray 58) = w0 from hw0] at hq0
  rw [hw0] at hz0 hlo
  have hw00 := hw.after hlo
  have hwb := hw.lt
  obtain ⟨t, htt⟩ : ∃ t, x.text = t := ⟨_, rfl⟩
  have HW0 := Lib.hid (show (w.alloc (.cells #[.bool true, .string ⟨t.toArray⟩, .slice (some ⟨g, o, none⟩) 17 c] 58)).alloc (.cells #[.bool false, .string ⟨#[]⟩, .slice none 0 0] 58) = w0 from by have hw1 := hw0; rw [hl, htt] at hw1; exact hw1)
  rw [hl, htt] at hq0 ⊢
  have HWC0 := Lib.hid hw00
  have HLO := Lib.hid hlo
  have HQ0 := Lib.hid hq0
  have HZ0 := Lib.hid hz0
  have HSZ := Lib.hid hsz0
  clear hl hw hlo hw0 hq0 hz0 htt hw00 hsz0
  have hc1 := (HLO.out.cell (p := ⟨g, o + 49, none⟩) hg).trans a1
  have hc0 := HWC0.out.cell (j := 0) rfl
  have hc2 := HWC0.out.cell (j := 2) rfl
  have hd2 := HWC0.out.frozen 2
  have hq2 := HQ0.out.cell (j := 2) rfl
  have f0 := HZ0.out.frozen 0
  have f1 := HZ0.out.frozen 1
  have f2 := HZ0.out.frozen 2
  have e0 := HZ0.out.cell (j := 0) rfl
  have e1 := HZ0.out.cell (j := 1) rfl
  have e2 := HZ0.out.cell (j := 2) rfl
  have n1 : ¬ wb = w.heap.size + 1 := by omega
  have n2 : ¬ w.heap.size + 1 = wb := by omega
  clear hat hr
  go_enter Tryd.func41, Tryd.ntmps41
  go_wp2_with (rw [HW0.out])
  go_wp2_with fail
  have hf := (((HZ0.out.setOther (i := 2) n2 (.string ⟨y.text.toArray⟩)).set 0 (.bool false)).set 1 (.string ⟨#[]⟩)).set 2 (.slice none 0 0)
  refine bodyPost_ret (results_cells2 rfl _ _ (w.heap.size + 1) [.bool false, .string ⟨#[]⟩, .slice none 0 0] _ (by rfl) (HasCells.kept hf rfl).range Tryd.underlying58 rfl infoItemS) rfl ?_
  exact ⟨(((Upd.of_below HLO.out hB).trans (Upd.set w0 hBw 2 _)).above (three_at (Below.refl _ _) (by omega) _ _ _) hB), false, _, _, _, _, ⟨#[]⟩, by rfl, (HWC0.out.set 2 (.string ⟨y.text.toArray⟩)).threeOther n1 _ _ _⟩
set_option maxRecDepth 100000 in
set_option maxHeartbeats 6400000 in
/-- a branch, and a half byte -/
theorem walkStep_half (B wb z : Nat) (x : Item) (p : Option Addr) (c : Nat) (h : UInt8) (tl : List UInt8) (pp : Option Addr) (pn pc : Nat) (w : World) (hB : B ≤ w.heap.size) (hBw : B ≤ wb) (hl : x.isList = true) (h17 : x.list.length = 17) (hh : h.toNat ≤ 15) (hlen : tl.length ≤ 1099511627776) (hr : RZ z w (.slice p 17 c) x.list)
    (hw : HasCells w wb [.string ⟨(h :: tl).toArray⟩, .slice pp pn pc, .string ⟨#[]⟩] 55) :
    Calls Tryd.prog 41 #[.pointer (some ⟨wb, 0, none⟩), .agg #[.bool x.isList, .string ⟨x.text.toArray⟩, .slice p 17 c]] w (StepRes B wb z (.slice pp pn pc) (stepP x (h :: tl)) w) := by
  obtain ⟨y, hy⟩ : ∃ y, x.list[h.toNat]? = some y := ⟨_, List.getElem?_eq_getElem (by omega)⟩
  obtain ⟨rr, hrr⟩ : ∃ r, stepP x (h :: tl) = r := ⟨_, rfl⟩
  rw [hrr]
  rw [show stepP x (h :: tl) = if emptyI y then .stop [] else .next y tl from by unfold stepP; rw [if_pos h17]; dsimp only; rw [show x.list.getD h.toNat .none = y from by rw [List.getD_eq_getElem?_getD, hy]; rfl]] at hrr
  have HRR := Lib.hid hrr
  obtain ⟨-, g, o, rfl, ⟨hg, -⟩, hat⟩ := ReadsIn.at hr (by decide)
  obtain ⟨a0, a1, v2, a2, hv2⟩ := hat h.toNat y hy
  obtain ⟨yp, yc, rfl⟩ := ReadsIn.form hv2
  obtain ⟨yn, hyn⟩ : ∃ n, y.list.length = n := ⟨_, rfl⟩
  rw [hyn] at a2 hv2
  have HV : Hid (RZ z w _ _) := Lib.hid hv2
  have HWW := Lib.hid hw
  clear hrr hyn
  have hlo := laid2 w (.cells #[.bool x.isList, .string ⟨x.text.toArray⟩, .slice (some ⟨g, o, none⟩) 17 c] 58) (.cells itemZ.toArray 58)
  have hq0 := (HasCells.new w [.bool x.isList, .string ⟨x.text.toArray⟩, .slice (some ⟨g, o, none⟩) 17 c] 58).alloc (.cells itemZ.toArray 58)
  have hz0 : HasCells ((w.alloc (.cells #[.bool x.isList, .string ⟨x.text.toArray⟩, .slice (some ⟨g, o, none⟩) 17 c] 58)).alloc (.cells itemZ.toArray 58)) (w.heap.size + 1) itemZ 58 := by
    have h := HasCells.new (w.alloc (.cells #[.bool x.isList, .string ⟨x.text.toArray⟩, .slice (some ⟨g, o, none⟩) 17 c] 58)) itemZ 58
    rwa [World.size_alloc] at h
  obtain ⟨w0, hw0⟩ : ∃ W, (w.alloc (.cells #[.bool x.isList, .string ⟨x.text.toArray⟩, .slice (some ⟨g, o, none⟩) 17 c] 58)).alloc (.cells itemZ.toArray 58) = W := ⟨_, rfl⟩
  have hsz0 : w0.heap.size = w.heap.size + 2 := by rw [← hw0]; simp
  rw [show (w.alloc (.cells ([.bool x.isList, .string ⟨x.text.toArray⟩, .slice (some ⟨g, o, none⟩) 17 c] : List Value).toArray 58)).alloc (.cells itemZ.toArray 58) = w0 from hw0] at hq0
  rw [hw0] at hz0 hlo
  have hw00 := hw.after hlo
  have hwb := hw.lt
  obtain ⟨t, htt⟩ : ∃ t, x.text = t := ⟨_, rfl⟩
  have HW0 := Lib.hid (show (w.alloc (.cells #[.bool true, .string ⟨t.toArray⟩, .slice (some ⟨g, o, none⟩) 17 c] 58)).alloc (.cells #[.bool false, .string ⟨#[]⟩, .slice none 0 0] 58) = w0 from by have hw1 := hw0; rw [hl, htt] at hw1; exact hw1)
  rw [hl, htt] at hq0 ⊢
  have HWC0 := Lib.hid hw00
  have HLO := Lib.hid hlo
  have HQ0 := Lib.hid hq0
  have HZ0 := Lib.hid hz0
  have HSZ := Lib.hid hsz0
  clear hl hw hlo hw0 hq0 hz0 htt hw00 hsz0
  have HC := Lib.hid (fun W (hb : Below w0.heap.size w0 W) => (show W.cell? ⟨w.heap.size, 2, none⟩ = some (.slice (some ⟨g, o, none⟩) 17 c) ∧ W.cell? ⟨wb, 0, none⟩ = some (.string ⟨(h :: tl).toArray⟩) ∧ W.cell? ⟨g, o + h.toNat * 3, none⟩ = some (.bool y.isList) ∧ W.cell? ⟨g, o + h.toNat * 3 + 1, none⟩ = some (.string ⟨y.text.toArray⟩) ∧ W.cell? ⟨g, o + h.toNat * 3 + 2, none⟩ = some (.slice yp yn yc) from
    ⟨(HQ0.out.after hb).cell (j := 2) rfl, (HWC0.out.after hb).cell (j := 0) rfl,
      ((hb.cell (p := ⟨g, o + h.toNat * 3, none⟩) (Nat.lt_of_lt_of_le hg HLO.out.size)).trans (HLO.out.cell (p := ⟨g, o + h.toNat * 3, none⟩) hg)).trans a0,
      ((hb.cell (p := ⟨g, o + h.toNat * 3 + 1, none⟩) (Nat.lt_of_lt_of_le hg HLO.out.size)).trans (HLO.out.cell (p := ⟨g, o + h.toNat * 3 + 1, none⟩) hg)).trans a1,
      ((hb.cell (p := ⟨g, o + h.toNat * 3 + 2, none⟩) (Nat.lt_of_lt_of_le hg HLO.out.size)).trans (HLO.out.cell (p := ⟨g, o + h.toNat * 3 + 2, none⟩) hg)).trans a2⟩))
  have hc0 := HWC0.out.cell (j := 0) rfl
  have hq2 := HQ0.out.cell (j := 2) rfl
  have hi : (h.toNat : Int) < 17 := by omega
  clear hat hr a0 a1 a2 hv2
  go_enter Tryd.func41, Tryd.ntmps41
  go_wp2_with (rw [HW0.out])
  have b0 : Below w0.heap.size w0 w0.drew := (Below.refl _ _).drew
  refine wp_region_held_drew (S := (fun W => W.cell? ⟨w.heap.size, 2, none⟩ = some (.slice (some ⟨g, o, none⟩) 17 c) ∧ W.cell? ⟨wb, 0, none⟩ = some (.string ⟨(h :: tl).toArray⟩) ∧ W.cell? ⟨g, o + h.toNat * 3, none⟩ = some (.bool y.isList) ∧ W.cell? ⟨g, o + h.toNat * 3 + 1, none⟩ = some (.string ⟨y.text.toArray⟩) ∧ W.cell? ⟨g, o + h.toNat * 3 + 2, none⟩ = some (.slice yp yn yc))) (by kernel_rfl) (HC.out _ b0) (fun hHeld => ?_)
  refine wpAnyH_take (i := 0) (v := ?_) rfl (by kernel_rfl) (by kernel_rfl) (by kernel_rfl) (fun _ _ _ h => h) (.inl ⟨by rfl, ?_⟩) (by assumption) ?_
  rotate_left 1
  · intro w0 hSw
    go_simp <;> with_reducible rfl
  try simp only [Act.put, List.getElem_toArray, List.getElem_cons_zero, List.setIfInBounds_toArray, List.set_cons_zero, List.set_cons_succ]
  refine wpAnyH_take (i := 1) (v := ?_) rfl (by kernel_rfl) (by kernel_rfl) (by kernel_rfl) (fun _ _ _ h => h) (.inl ⟨by rfl, ?_⟩) (by assumption) ?_
  rotate_left 1
  · intro w0 hSw
    obtain ⟨z0, z1, z2, z3, z4⟩ := hSw
    go_simp <;> with_reducible rfl
  try simp only [Act.put, List.getElem_toArray, List.getElem_cons_zero, List.getElem_cons_succ, List.setIfInBounds_toArray, List.set_cons_zero, List.set_cons_succ]
  refine wpAnyH_take (i := 2) (v := ?_) rfl (by kernel_rfl) (by kernel_rfl) (by kernel_rfl) (fun _ _ _ h => h) (.inl ⟨by rfl, ?_⟩) (by assumption) ?_
  rotate_left 1
  · intro w0 hSw
    go_simp <;> with_reducible rfl
  try simp only [Act.put, List.getElem_toArray, List.getElem_cons_zero, List.getElem_cons_succ, List.setIfInBounds_toArray, List.set_cons_zero, List.set_cons_succ]
  refine wpAnyH_take (i := 3) (v := ?_) rfl (by kernel_rfl) (by kernel_rfl) (by kernel_rfl) (fun _ _ _ h => h) (.inl ⟨by rfl, ?_⟩) (by assumption) ?_
  rotate_left 1
  · intro w0 hSw
    go_simp <;> with_reducible rfl
  try simp only [Act.put, List.getElem_toArray, List.getElem_cons_zero, List.getElem_cons_succ, List.setIfInBounds_toArray, List.set_cons_zero, List.set_cons_succ]
  refine wpAnyH_take (i := 4) (v := ?_) rfl (by kernel_rfl) (by kernel_rfl) (by kernel_rfl) (fun _ _ _ h => h) (.inl ⟨by rfl, ?_⟩) (by assumption) ?_
  rotate_left 1
  · intro w0 hSw
    go_simp <;> with_reducible rfl
  try simp only [Act.put, List.getElem_toArray, List.getElem_cons_zero, List.getElem_cons_succ, List.setIfInBounds_toArray, List.set_cons_zero, List.set_cons_succ]
  refine wpAnyH_take (i := 5) (v := ?_) rfl (by kernel_rfl) (by kernel_rfl) (by kernel_rfl) (fun _ _ _ h => h) (.inl ⟨by rfl, ?_⟩) (by assumption) ?_
  rotate_left 1
  · intro w0 hSw
    obtain ⟨z0, z1, z2, z3, z4⟩ := hSw
    go_simp <;> with_reducible rfl
  try simp only [Act.put, List.getElem_toArray, List.getElem_cons_zero, List.getElem_cons_succ, List.setIfInBounds_toArray, List.set_cons_zero, List.set_cons_succ]
  refine wpAnyH_take (i := 6) (v := ?_) rfl (by kernel_rfl) (by kernel_rfl) (by kernel_rfl) (fun _ _ _ h => h) (.inl ⟨by rfl, ?_⟩) (by assumption) ?_
  rotate_left 1
  · intro w0 hSw
    go_simp <;> with_reducible rfl
  try simp only [Act.put, List.getElem_toArray, List.getElem_cons_zero, List.getElem_cons_succ, List.setIfInBounds_toArray, List.set_cons_zero, List.set_cons_succ]
  rw [bt_head]
  refine wpAnyH_take (i := 7) (v := ?_) rfl (by kernel_rfl) (by kernel_rfl) (by kernel_rfl) (fun _ _ _ h => h) (.inl ⟨by rfl, ?_⟩) (by assumption) ?_
  rotate_left 1
  · intro w0 hSw
    go_simp <;> with_reducible rfl
  try simp only [Act.put, List.getElem_toArray, List.getElem_cons_zero, List.getElem_cons_succ, List.setIfInBounds_toArray, List.set_cons_zero, List.set_cons_succ]
  refine wpAnyH_take (i := 8) (v := ?_) rfl (by kernel_rfl) (by kernel_rfl) (by kernel_rfl) (fun _ _ _ h => h) (.inl ⟨by rfl, ?_⟩) (by assumption) ?_
  rotate_left 1
  · intro w0 hSw
    obtain ⟨z0, z1, z2, z3, z4⟩ := hSw
    go_simp <;> with_reducible rfl
  try simp only [Act.put, List.getElem_toArray, List.getElem_cons_zero, List.getElem_cons_succ, List.setIfInBounds_toArray, List.set_cons_zero, List.set_cons_succ]
  have hu1 := (laid1 w0 (.cells #[.bool false, .string ⟨#[]⟩, .slice none 0 0] 58)).drew
  have hz1 : HasCells (w0.alloc (.cells #[.bool false, .string ⟨#[]⟩, .slice none 0 0] 58)).drew w0.heap.size itemZ 58 := HasCells.kept (HasCells.new w0 itemZ 58) rfl
  refine wpAnyH_ready (rs := [9]) (by kernel_rfl) (by simp) ?_
  refine AllReadyH.cons rfl (fun K hK => ?_) AllReadyH.nil
  go_simp
  refine hK.out _ _ (HC.out _ hu1) (fun hHeld => ?_)
  clear hK K
  try simp only [Act.put, List.getElem_toArray, List.getElem_cons_zero, List.getElem_cons_succ, List.setIfInBounds_toArray, List.set_cons_zero, List.set_cons_succ]
  obtain ⟨w1, hw1⟩ : ∃ W, (w0.alloc (.cells #[.bool false, .string ⟨#[]⟩, .slice none 0 0] 58)).drew = W := ⟨_, rfl⟩
  have hs1 : w1.heap.size = w0.heap.size + 1 := by rw [← hw1]; simp
  rw [hw1] at hu1 hz1 hHeld ⊢
  have e0 := hz1.cell (j := 0) rfl
  have e1 := hz1.cell (j := 1) rfl
  have e2 := hz1.cell (j := 2) rfl
  have f0 := hz1.frozen 0
  have f1 := hz1.frozen 1
  have f2 := hz1.frozen 2
  refine wpAnyH_ready (rs := [10]) (by kernel_rfl) (by simp) ?_
  refine AllReadyH.cons rfl (fun K hK => ?_) AllReadyH.nil
  go_simp
  have hb2 := three_at hu1 (Nat.le_refl _) (.bool y.isList) (.string ⟨y.text.toArray⟩) (.slice yp yn yc)
  refine hK.out _ _ (HC.out _ hb2) (fun hHeld => ?_)
  clear hK K
  try simp only [Act.put, List.getElem_toArray, List.getElem_cons_zero, List.getElem_cons_succ, List.setIfInBounds_toArray, List.set_cons_zero, List.set_cons_succ]
  refine wpAnyH_done (by kernel_rfl) ?_ 0
  have hw1 := (HWC0.out.after hu1).threeOther (show wb ≠ w0.heap.size by have := HSZ.out; omega) (.bool y.isList) (.string ⟨y.text.toArray⟩) (.slice yp yn yc)
  have hzt := (HZ0.out.after hu1).threeOther (show w.heap.size + 1 ≠ w0.heap.size by have := HSZ.out; omega) (.bool y.isList) (.string ⟨y.text.toArray⟩) (.slice yp yn yc)
  have hn2 : HasCells _ _ [.bool y.isList, .string ⟨y.text.toArray⟩, .slice yp yn yc] _ := ((hz1.set 0 (.bool y.isList)).set 1 (.string ⟨y.text.toArray⟩)).set 2 (.slice yp yn yc)
  obtain ⟨w2, h2⟩ : ∃ W, ((w1.setCell ⟨w0.heap.size, 0, none⟩ (.bool y.isList)).setCell ⟨w0.heap.size, 1, none⟩ (.string ⟨y.text.toArray⟩)).setCell ⟨w0.heap.size, 2, none⟩ (.slice yp yn yc) = W := ⟨_, rfl⟩
  rw [h2] at hw1 hn2 hzt hb2 ⊢
  have HW2 := Lib.hid hw1
  have HN2 := Lib.hid hn2
  have HT2 := Lib.hid hzt
  have HB2 := Lib.hid hb2
  have c0 := hw1.cell (j := 0) rfl
  have d0 := hw1.frozen 0
  have HS2 := Lib.hid (show w2.heap.size = w0.heap.size + 1 by rw [← h2]; simpa using hs1)
  have hle : (1 : Int) ≤ (tl.length : Int) + 1 := by omega
  clear h2 hs1 hn2 hzt hb2 hw1 hu1 hz1 e0 e1 e2 f0 f1 f2 hHeld
  go_wp2_with fail
  rw [bt_tail]
  obtain ⟨w3, h3⟩ : ∃ W, w2.setCell ⟨wb, 0, none⟩ (.string ⟨tl.toArray⟩) = W := ⟨_, rfl⟩
  rw [h3]
  have HW3 : Hid (HasCells w3 wb [.string (bt tl), .slice pp pn pc, .string ⟨#[]⟩] 55) := Lib.hid (by rw [← h3]; exact HW2.out.set 0 _)
  have HN3 : Hid (HasCells w3 w0.heap.size [.bool y.isList, .string ⟨y.text.toArray⟩, .slice yp yn yc] 58) := Lib.hid (by rw [← h3]; exact HN2.out.setOther (show w0.heap.size ≠ wb by have := HSZ.out; omega) _)
  have HT3 : Hid (HasCells w3 (w.heap.size + 1) itemZ 58) := Lib.hid (by rw [← h3]; exact HT2.out.setOther (show w.heap.size + 1 ≠ wb by omega) _)
  have HU3 : Hid (Upd B wb w w3) := Lib.hid ((Upd.of_below (HLO.out.trans (HB2.out.mono HLO.out.size)) hB).trans (by rw [← h3]; exact Upd.set w2 hBw 0 _))
  have HS3 := Lib.hid (show w3.heap.size = w0.heap.size + 1 by rw [← h3, World.size_setCell, HS2.out])
  obtain ⟨yl, hyl⟩ : ∃ b, y.isList = b := ⟨_, rfl⟩
  obtain ⟨yt, hyt⟩ : ∃ b, y.text = b := ⟨_, rfl⟩
  have hrr := HRR.out
  rw [show emptyI y = (!yl && yt.isEmpty) from by unfold emptyI; rw [hyl, hyt]] at hrr
  have HR2 := Lib.hid hrr
  have HYL := Lib.hid hyl
  have HYT := Lib.hid hyt
  rw [hyl, hyt] at HN3 ⊢
  clear h3 HN2 HW2 HT2 HC hyl hyt hrr HRR c0 d0
  have b0 : Below w3.heap.size w3 w3.drew := (Below.refl _ _).drew
  have hzt := HT3.out
  have e0 := hzt.cell (j := 0) rfl
  have e1 := hzt.cell (j := 1) rfl
  have e2 := hzt.cell (j := 2) rfl
  have f0 := hzt.frozen 0
  have f1 := hzt.frozen 1
  have f2 := hzt.frozen 2
  clear hzt
  have ne1 : w0.heap.size ≠ w.heap.size + 1 := by have := HSZ.out; omega
  cases yl with
  | true =>
    refine wp_region_held_drew (S := (fun W => W.cell? ⟨w0.heap.size, 0, none⟩ = some (.bool true) ∧ W.cell? ⟨w0.heap.size, 1, none⟩ = some (.string ⟨yt.toArray⟩) ∧ W.cell? ⟨w0.heap.size, 2, none⟩ = some (.slice yp yn yc))) (by kernel_rfl) (⟨HN3.out.cell (j := 0) rfl, HN3.out.cell (j := 1) rfl, HN3.out.cell (j := 2) rfl⟩) (fun hHeld => ?_)
    refine wpAnyH_take (i := 0) (v := ?_) rfl (by kernel_rfl) (by kernel_rfl) (by kernel_rfl) (fun _ _ _ h => h) (.inl ⟨by rfl, ?_⟩) (by assumption) ?_
    rotate_left 1
    · intro w0 hSw
      obtain ⟨z0, z1, z2⟩ := hSw
      go_simp <;> with_reducible rfl
    try simp only [Act.put, List.getElem_toArray, List.getElem_cons_zero, List.setIfInBounds_toArray, List.set_cons_zero, List.set_cons_succ]
    refine wpAnyH_take (i := 1) (v := ?_) rfl (by kernel_rfl) (by kernel_rfl) (by kernel_rfl) (fun _ _ _ h => h) (.inl ⟨by rfl, ?_⟩) (by assumption) ?_
    rotate_left 1
    · intro w0 hSw
      go_simp <;> with_reducible rfl
    try simp only [Act.put, List.getElem_toArray, List.getElem_cons_zero, List.getElem_cons_succ, List.setIfInBounds_toArray, List.set_cons_zero, List.set_cons_succ]
    refine wpAnyH_take (i := 2) (v := ?_) rfl (by kernel_rfl) (by kernel_rfl) (by kernel_rfl) (fun _ _ _ h => h) (.inl ⟨by rfl, ?_⟩) (by assumption) ?_
    rotate_left 1
    · intro w0 hSw
      obtain ⟨z0, z1, z2⟩ := hSw
      go_simp <;> with_reducible rfl
    try simp only [Act.put, List.getElem_toArray, List.getElem_cons_zero, List.getElem_cons_succ, List.setIfInBounds_toArray, List.set_cons_zero, List.set_cons_succ]
    refine wpAnyH_take (i := 3) (v := ?_) rfl (by kernel_rfl) (by kernel_rfl) (by kernel_rfl) (fun _ _ _ h => h) (.inl ⟨by rfl, ?_⟩) (by assumption) ?_
    rotate_left 1
    · intro w0 hSw
      go_simp <;> with_reducible rfl
    try simp only [Act.put, List.getElem_toArray, List.getElem_cons_zero, List.getElem_cons_succ, List.setIfInBounds_toArray, List.set_cons_zero, List.set_cons_succ]
    refine wpAnyH_take (i := 4) (v := undef) rfl (by kernel_rfl) (by kernel_rfl) (by kernel_rfl) (fun _ _ _ h => h) (.inr ⟨by rfl, rfl⟩) (by assumption) ?_
    try simp only [Act.put, List.getElem_toArray, List.getElem_cons_zero, List.getElem_cons_succ, List.setIfInBounds_toArray, List.set_cons_zero, List.set_cons_succ]
    refine wpAnyH_take (i := 5) (v := undef) rfl (by kernel_rfl) (by kernel_rfl) (by kernel_rfl) (fun _ _ _ h => h) (.inr ⟨by rfl, rfl⟩) (by assumption) ?_
    try simp only [Act.put, List.getElem_toArray, List.getElem_cons_zero, List.getElem_cons_succ, List.setIfInBounds_toArray, List.set_cons_zero, List.set_cons_succ]
    refine wpAnyH_take (i := 6) (v := undef) rfl (by kernel_rfl) (by kernel_rfl) (by kernel_rfl) (fun _ _ _ h => h) (.inr ⟨by rfl, rfl⟩) (by assumption) ?_
    try simp only [Act.put, List.getElem_toArray, List.getElem_cons_zero, List.getElem_cons_succ, List.setIfInBounds_toArray, List.set_cons_zero, List.set_cons_succ]
    refine wpAnyH_take (i := 7) (v := ?_) rfl (by kernel_rfl) (by kernel_rfl) (by kernel_rfl) (fun _ _ _ h => h) (.inl ⟨by rfl, ?_⟩) (by assumption) ?_
    rotate_left 1
    · intro w0 hSw
      go_simp <;> with_reducible rfl
    try simp only [Act.put, List.getElem_toArray, List.getElem_cons_zero, List.getElem_cons_succ, List.setIfInBounds_toArray, List.set_cons_zero, List.set_cons_succ]
    refine wpAnyH_ready (rs := [8]) (by kernel_rfl) (by simp) ?_
    refine AllReadyH.cons rfl (fun K hK => ?_) AllReadyH.nil
    go_simp
    refine hK.out _ _ (⟨three_other hHeld.1 ne1 _ _ _, three_other hHeld.2.1 ne1 _ _ _, three_other hHeld.2.2 ne1 _ _ _⟩) (fun hHeld => ?_)
    clear hK K
    try simp only [Act.put, List.getElem_toArray, List.getElem_cons_zero, List.getElem_cons_succ, List.setIfInBounds_toArray, List.set_cons_zero, List.set_cons_succ]
    refine wpAnyH_take (i := 9) (v := ?_) rfl (by kernel_rfl) (by kernel_rfl) (by kernel_rfl) (fun _ _ _ h => h) (.inl ⟨by rfl, ?_⟩) (by assumption) ?_
    rotate_left 1
    · intro w0 hSw
      go_simp <;> with_reducible rfl
    try simp only [Act.put, List.getElem_toArray, List.getElem_cons_zero, List.getElem_cons_succ, List.setIfInBounds_toArray, List.set_cons_zero, List.set_cons_succ]
    refine wpAnyH_done (by kernel_rfl) ?_ 0
    go_wp2_with fail
    have hf := ((HT3.out.set 0 (.bool true)).set 1 (.string ⟨yt.toArray⟩)).set 2 (.slice yp yn yc)
    refine bodyPost_ret (results_cells2 rfl _ _ (w.heap.size + 1) [.bool true, .string ⟨yt.toArray⟩, .slice yp yn yc] _ (by rfl) (HasCells.kept hf rfl).range Tryd.underlying58 rfl infoItemS) rfl ?_
    rw [← HR2.out]
    have hu := HU3.out.above (Below.drew (three_at (Below.refl w.heap.size w3) (show w.heap.size ≤ w.heap.size + 1 by omega) (.bool true) (.string ⟨yt.toArray⟩) (.slice yp yn yc))) hB
    refine ⟨hu, ?_⟩
    exact ⟨yp, yn, yc, by rw [HYL.out, HYT.out]; rfl, RZ.upd HV.out hu HWW.out ⟨_, _, _, rfl⟩, HasCells.kept (HW3.out.threeOther (show wb ≠ w.heap.size + 1 by omega) _ _ _) rfl⟩
  | false =>
    cases yt with
    | nil =>
      refine wp_region_held_drew (S := (fun W => W.cell? ⟨w0.heap.size, 0, none⟩ = some (.bool false) ∧ W.cell? ⟨w0.heap.size, 1, none⟩ = some (.string ⟨#[]⟩) ∧ W.cell? ⟨w0.heap.size, 2, none⟩ = some (.slice yp yn yc))) (by kernel_rfl) (⟨HN3.out.cell (j := 0) rfl, HN3.out.cell (j := 1) rfl, HN3.out.cell (j := 2) rfl⟩) (fun hHeld => ?_)
      refine wpAnyH_take (i := 0) (v := ?_) rfl (by kernel_rfl) (by kernel_rfl) (by kernel_rfl) (fun _ _ _ h => h) (.inl ⟨by rfl, ?_⟩) (by assumption) ?_
      rotate_left 1
      · intro w0 hSw
        obtain ⟨z0, z1, z2⟩ := hSw
        go_simp <;> with_reducible rfl
      try simp only [Act.put, List.getElem_toArray, List.getElem_cons_zero, List.setIfInBounds_toArray, List.set_cons_zero, List.set_cons_succ]
      refine wpAnyH_take (i := 1) (v := ?_) rfl (by kernel_rfl) (by kernel_rfl) (by kernel_rfl) (fun _ _ _ h => h) (.inl ⟨by rfl, ?_⟩) (by assumption) ?_
      rotate_left 1
      · intro w0 hSw
        go_simp <;> with_reducible rfl
      try simp only [Act.put, List.getElem_toArray, List.getElem_cons_zero, List.getElem_cons_succ, List.setIfInBounds_toArray, List.set_cons_zero, List.set_cons_succ]
      refine wpAnyH_take (i := 2) (v := ?_) rfl (by kernel_rfl) (by kernel_rfl) (by kernel_rfl) (fun _ _ _ h => h) (.inl ⟨by rfl, ?_⟩) (by assumption) ?_
      rotate_left 1
      · intro w0 hSw
        obtain ⟨z0, z1, z2⟩ := hSw
        go_simp <;> with_reducible rfl
      try simp only [Act.put, List.getElem_toArray, List.getElem_cons_zero, List.getElem_cons_succ, List.setIfInBounds_toArray, List.set_cons_zero, List.set_cons_succ]
      refine wpAnyH_take (i := 3) (v := ?_) rfl (by kernel_rfl) (by kernel_rfl) (by kernel_rfl) (fun _ _ _ h => h) (.inl ⟨by rfl, ?_⟩) (by assumption) ?_
      rotate_left 1
      · intro w0 hSw
        go_simp <;> with_reducible rfl
      try simp only [Act.put, List.getElem_toArray, List.getElem_cons_zero, List.getElem_cons_succ, List.setIfInBounds_toArray, List.set_cons_zero, List.set_cons_succ]
      refine wpAnyH_take (i := 4) (v := ?_) rfl (by kernel_rfl) (by kernel_rfl) (by kernel_rfl) (fun _ _ _ h => h) (.inl ⟨by rfl, ?_⟩) (by assumption) ?_
      rotate_left 1
      · intro w0 hSw
        go_simp <;> with_reducible rfl
      try simp only [Act.put, List.getElem_toArray, List.getElem_cons_zero, List.getElem_cons_succ, List.setIfInBounds_toArray, List.set_cons_zero, List.set_cons_succ]
      refine wpAnyH_take (i := 5) (v := ?_) rfl (by kernel_rfl) (by kernel_rfl) (by kernel_rfl) (fun _ _ _ h => h) (.inl ⟨by rfl, ?_⟩) (by assumption) ?_
      rotate_left 1
      · intro w0 hSw
        obtain ⟨z0, z1, z2⟩ := hSw
        go_simp <;> with_reducible rfl
      try simp only [Act.put, List.getElem_toArray, List.getElem_cons_zero, List.getElem_cons_succ, List.setIfInBounds_toArray, List.set_cons_zero, List.set_cons_succ]
      refine wpAnyH_take (i := 6) (v := ?_) rfl (by kernel_rfl) (by kernel_rfl) (by kernel_rfl) (fun _ _ _ h => h) (.inl ⟨by rfl, ?_⟩) (by assumption) ?_
      rotate_left 1
      · intro w0 hSw
        go_simp <;> with_reducible rfl
      try simp only [Act.put, List.getElem_toArray, List.getElem_cons_zero, List.getElem_cons_succ, List.setIfInBounds_toArray, List.set_cons_zero, List.set_cons_succ]
      refine wpAnyH_take (i := 7) (v := ?_) rfl (by kernel_rfl) (by kernel_rfl) (by kernel_rfl) (fun _ _ _ h => h) (.inl ⟨by rfl, ?_⟩) (by assumption) ?_
      rotate_left 1
      · intro w0 hSw
        go_simp <;> with_reducible rfl
      try simp only [Act.put, List.getElem_toArray, List.getElem_cons_zero, List.getElem_cons_succ, List.setIfInBounds_toArray, List.set_cons_zero, List.set_cons_succ]
      refine wpAnyH_ready (rs := [8]) (by kernel_rfl) (by simp) ?_
      refine AllReadyH.cons rfl (fun K hK => ?_) AllReadyH.nil
      go_simp
      refine hK.out _ _ (⟨three_other hHeld.1 ne1 _ _ _, three_other hHeld.2.1 ne1 _ _ _, three_other hHeld.2.2 ne1 _ _ _⟩) (fun hHeld => ?_)
      clear hK K
      try simp only [Act.put, List.getElem_toArray, List.getElem_cons_zero, List.getElem_cons_succ, List.setIfInBounds_toArray, List.set_cons_zero, List.set_cons_succ]
      refine wpAnyH_take (i := 9) (v := ?_) rfl (by kernel_rfl) (by kernel_rfl) (by kernel_rfl) (fun _ _ _ h => h) (.inl ⟨by rfl, ?_⟩) (by assumption) ?_
      rotate_left 1
      · intro w0 hSw
        go_simp <;> with_reducible rfl
      try simp only [Act.put, List.getElem_toArray, List.getElem_cons_zero, List.getElem_cons_succ, List.setIfInBounds_toArray, List.set_cons_zero, List.set_cons_succ]
      refine wpAnyH_done (by kernel_rfl) ?_ 0
      go_wp2_with fail
      have hf := ((HT3.out.set 0 (.bool false)).set 1 (.string ⟨#[]⟩)).set 2 (.slice yp yn yc)
      refine bodyPost_ret (results_cells2 rfl _ _ (w.heap.size + 1) [.bool false, .string ⟨#[]⟩, .slice yp yn yc] _ (by rfl) (HasCells.kept hf rfl).range Tryd.underlying58 rfl infoItemS) rfl ?_
      rw [← HR2.out]
      have hu := HU3.out.above (Below.drew (three_at (Below.refl w.heap.size w3) (show w.heap.size ≤ w.heap.size + 1 by omega) (.bool false) (.string ⟨#[]⟩) (.slice yp yn yc))) hB
      refine ⟨hu, ?_⟩
      exact ⟨_, _, _, _, _, _, by rfl, HasCells.kept (HW3.out.threeOther (show wb ≠ w.heap.size + 1 by omega) _ _ _) rfl⟩
    | cons a ar =>
      refine wp_region_held_drew (S := (fun W => W.cell? ⟨w0.heap.size, 0, none⟩ = some (.bool false) ∧ W.cell? ⟨w0.heap.size, 1, none⟩ = some (.string ⟨(a :: ar).toArray⟩) ∧ W.cell? ⟨w0.heap.size, 2, none⟩ = some (.slice yp yn yc))) (by kernel_rfl) (⟨HN3.out.cell (j := 0) rfl, HN3.out.cell (j := 1) rfl, HN3.out.cell (j := 2) rfl⟩) (fun hHeld => ?_)
      refine wpAnyH_take (i := 0) (v := ?_) rfl (by kernel_rfl) (by kernel_rfl) (by kernel_rfl) (fun _ _ _ h => h) (.inl ⟨by rfl, ?_⟩) (by assumption) ?_
      rotate_left 1
      · intro w0 hSw
        obtain ⟨z0, z1, z2⟩ := hSw
        go_simp <;> with_reducible rfl
      try simp only [Act.put, List.getElem_toArray, List.getElem_cons_zero, List.setIfInBounds_toArray, List.set_cons_zero, List.set_cons_succ]
      refine wpAnyH_take (i := 1) (v := ?_) rfl (by kernel_rfl) (by kernel_rfl) (by kernel_rfl) (fun _ _ _ h => h) (.inl ⟨by rfl, ?_⟩) (by assumption) ?_
      rotate_left 1
      · intro w0 hSw
        go_simp <;> with_reducible rfl
      try simp only [Act.put, List.getElem_toArray, List.getElem_cons_zero, List.getElem_cons_succ, List.setIfInBounds_toArray, List.set_cons_zero, List.set_cons_succ]
      refine wpAnyH_take (i := 2) (v := ?_) rfl (by kernel_rfl) (by kernel_rfl) (by kernel_rfl) (fun _ _ _ h => h) (.inl ⟨by rfl, ?_⟩) (by assumption) ?_
      rotate_left 1
      · intro w0 hSw
        obtain ⟨z0, z1, z2⟩ := hSw
        go_simp <;> with_reducible rfl
      try simp only [Act.put, List.getElem_toArray, List.getElem_cons_zero, List.getElem_cons_succ, List.setIfInBounds_toArray, List.set_cons_zero, List.set_cons_succ]
      refine wpAnyH_take (i := 3) (v := ?_) rfl (by kernel_rfl) (by kernel_rfl) (by kernel_rfl) (fun _ _ _ h => h) (.inl ⟨by rfl, ?_⟩) (by assumption) ?_
      rotate_left 1
      · intro w0 hSw
        go_simp <;> with_reducible rfl
      try simp only [Act.put, List.getElem_toArray, List.getElem_cons_zero, List.getElem_cons_succ, List.setIfInBounds_toArray, List.set_cons_zero, List.set_cons_succ]
      refine wpAnyH_take (i := 4) (v := ?_) rfl (by kernel_rfl) (by kernel_rfl) (by kernel_rfl) (fun _ _ _ h => h) (.inl ⟨by rfl, ?_⟩) (by assumption) ?_
      rotate_left 1
      · intro w0 hSw
        go_simp <;> with_reducible rfl
      try simp only [Act.put, List.getElem_toArray, List.getElem_cons_zero, List.getElem_cons_succ, List.setIfInBounds_toArray, List.set_cons_zero, List.set_cons_succ]
      refine wpAnyH_take (i := 5) (v := ?_) rfl (by kernel_rfl) (by kernel_rfl) (by kernel_rfl) (fun _ _ _ h => h) (.inl ⟨by rfl, ?_⟩) (by assumption) ?_
      rotate_left 1
      · intro w0 hSw
        obtain ⟨z0, z1, z2⟩ := hSw
        go_simp <;> with_reducible rfl
      try simp only [Act.put, List.getElem_toArray, List.getElem_cons_zero, List.getElem_cons_succ, List.setIfInBounds_toArray, List.set_cons_zero, List.set_cons_succ]
      refine wpAnyH_take (i := 6) (v := ?_) rfl (by kernel_rfl) (by kernel_rfl) (by kernel_rfl) (fun _ _ _ h => h) (.inl ⟨by rfl, ?_⟩) (by assumption) ?_
      rotate_left 1
      · intro w0 hSw
        go_simp <;> with_reducible rfl
      try simp only [Act.put, List.getElem_toArray, List.getElem_cons_zero, List.getElem_cons_succ, List.setIfInBounds_toArray, List.set_cons_zero, List.set_cons_succ]
      refine wpAnyH_take (i := 7) (v := ?_) rfl (by kernel_rfl) (by kernel_rfl) (by kernel_rfl) (fun _ _ _ h => h) (.inl ⟨by rfl, ?_⟩) (by assumption) ?_
      rotate_left 1
      · intro w0 hSw
        go_simp <;> with_reducible rfl
      try simp only [Act.put, List.getElem_toArray, List.getElem_cons_zero, List.getElem_cons_succ, List.setIfInBounds_toArray, List.set_cons_zero, List.set_cons_succ]
      refine wpAnyH_ready (rs := [8]) (by kernel_rfl) (by simp) ?_
      refine AllReadyH.cons rfl (fun K hK => ?_) AllReadyH.nil
      go_simp
      refine hK.out _ _ (⟨three_other hHeld.1 ne1 _ _ _, three_other hHeld.2.1 ne1 _ _ _, three_other hHeld.2.2 ne1 _ _ _⟩) (fun hHeld => ?_)
      clear hK K
      try simp only [Act.put, List.getElem_toArray, List.getElem_cons_zero, List.getElem_cons_succ, List.setIfInBounds_toArray, List.set_cons_zero, List.set_cons_succ]
      refine wpAnyH_take (i := 9) (v := ?_) rfl (by kernel_rfl) (by kernel_rfl) (by kernel_rfl) (fun _ _ _ h => h) (.inl ⟨by rfl, ?_⟩) (by assumption) ?_
      rotate_left 1
      · intro w0 hSw
        go_simp <;> with_reducible rfl
      try simp only [Act.put, List.getElem_toArray, List.getElem_cons_zero, List.getElem_cons_succ, List.setIfInBounds_toArray, List.set_cons_zero, List.set_cons_succ]
      refine wpAnyH_done (by kernel_rfl) ?_ 0
      go_wp2_with fail
      have hf := ((HT3.out.set 0 (.bool false)).set 1 (.string ⟨(a :: ar).toArray⟩)).set 2 (.slice yp yn yc)
      refine bodyPost_ret (results_cells2 rfl _ _ (w.heap.size + 1) [.bool false, .string ⟨(a :: ar).toArray⟩, .slice yp yn yc] _ (by rfl) (HasCells.kept hf rfl).range Tryd.underlying58 rfl infoItemS) rfl ?_
      rw [← HR2.out]
      have hu := HU3.out.above (Below.drew (three_at (Below.refl w.heap.size w3) (show w.heap.size ≤ w.heap.size + 1 by omega) (.bool false) (.string ⟨(a :: ar).toArray⟩) (.slice yp yn yc))) hB
      refine ⟨hu, ?_⟩
      exact ⟨yp, yn, yc, by rw [HYL.out, HYT.out]; rfl, RZ.upd HV.out hu HWW.out ⟨_, _, _, rfl⟩, HasCells.kept (HW3.out.threeOther (show wb ≠ w.heap.size + 1 by omega) _ _ _) rfl⟩
end Go.Proofs.YthicdhnjincflaaDoor

/- Contract of the walk's step at a list of two. -/
namespace Go.Proofs.YthicdhnjincflaaDoor
open Go.RowKit Go.Shelf Go.Lib
attribute [local go_sem] Oper.semAt_some

theorem cut_l {path rp tp : List UInt8} {hp : Bool} (h1 : Lib.trimPrefix path rp = tp) (h2 : Lib.hasPrefix path rp = hp) (w : World) :
    Calls Tryd.prog 51 #[.string ⟨path.toArray⟩, .string ⟨rp.toArray⟩] w fun e w' => e = .returned (.tuple #[.string ⟨tp.toArray⟩, .bool hp]) ∧ w' = w := by
  subst h1 h2
  exact Tryd.strings_CutPrefix ⟨path.toArray⟩ ⟨rp.toArray⟩ w
theorem cut_all {path rp tp : List UInt8} {hp : Bool} (h1 : Lib.trimPrefix path rp = tp) (h2 : Lib.hasPrefix path rp = hp) : (rp = path) ↔ (hp = true ∧ tp = []) := by
  subst h1 h2
  unfold Lib.trimPrefix Lib.hasPrefix
  constructor
  · rintro rfl
    have h : rp.isPrefixOf rp = true := List.isPrefixOf_iff_prefix.2 (List.prefix_refl _)
    rw [if_pos h]
    exact ⟨h, by simp⟩
  · rintro ⟨h, h3⟩
    rw [if_pos h] at h3
    obtain ⟨s, rfl⟩ := List.isPrefixOf_iff_prefix.1 h
    have : s = [] := by simpa using h3
    rw [this, List.append_nil]
theorem cut_way {path rp tp : List UInt8} {hp : Bool} (h1 : Lib.trimPrefix path rp = tp) (h2 : Lib.hasPrefix path rp = hp) (y : Item) : (if rp.isPrefixOf path then Way.next y (path.drop rp.length) else Way.stop []) = if hp then .next y tp else .stop [] := by
  subst h1 h2
  unfold Lib.trimPrefix Lib.hasPrefix
  cases rp.isPrefixOf path <;> simp
set_option maxRecDepth 100000 in
set_option maxHeartbeats 6400000 in
/-- a list of two -/
theorem walkStep_two (B wb z : Nat) (x : Item) (p : Option Addr) (c : Nat) (path : List UInt8) (pp : Option Addr) (pn pc : Nat) (w : World) (hB : B ≤ w.heap.size) (hBw : B ≤ wb) (hl : x.isList = true) (h2 : x.list.length = 2) (hsm : Small x) (hr : RZ z w (.slice p 2 c) x.list)
    (hw : HasCells w wb [.string ⟨path.toArray⟩, .slice pp pn pc, .string ⟨#[]⟩] 55) :
    Calls Tryd.prog 41 #[.pointer (some ⟨wb, 0, none⟩), .agg #[.bool x.isList, .string ⟨x.text.toArray⟩, .slice p 2 c]] w (StepRes B wb z (.slice pp pn pc) (stepP x path) w) := by
  obtain ⟨y0, y1, hxl⟩ : ∃ a b, x.list = [a, b] := by
    match hl : x.list, h2 with
    | [a, b], _ => exact ⟨a, b, rfl⟩
  have h0l := (hsm.child (y := y0) (by rw [hxl]; simp)).1.text
  obtain ⟨rr, hrr⟩ : ∃ r, stepP x path = r := ⟨_, rfl⟩
  rw [hrr]
  rw [show stepP x path = if (read y0.text).2.1 then .stop (if (read y0.text).1 = path then y1.text else []) else if (read y0.text).1.isPrefixOf path then .next y1 (path.drop (read y0.text).1.length) else .stop [] from by unfold stepP; rw [if_neg (by omega), hxl]; rfl] at hrr
  rw [hxl] at hr
  have hr0 : ReadsIn w (fun g => (g < w.heap.size ∧ g ≠ z) ∧ g ≠ wb) _ _ := ReadsIn.otherW hr hw ⟨_, _, _, rfl⟩
  obtain ⟨-, g, o, rfl, hg, hat⟩ := ReadsIn.at hr0 (by decide)
  obtain ⟨⟨hg, -⟩, hgw⟩ := hg
  obtain ⟨-, a01, -⟩ := hat 0 y0 rfl
  obtain ⟨a10, a11, v1, a12, hv1⟩ := hat 1 y1 rfl
  obtain ⟨q1, n1, rfl⟩ := ReadsIn.form hv1
  simp only [Nat.zero_mul, Nat.one_mul, Nat.add_zero, Nat.add_assoc, Nat.reduceAdd] at a01 a10 a11 a12
  obtain ⟨y0t, hy0t⟩ : ∃ t, y0.text = t := ⟨_, rfl⟩
  obtain ⟨yn, hyn⟩ : ∃ n, y1.list.length = n := ⟨_, rfl⟩
  rw [hyn] at a12 hv1
  rw [hy0t] at a01 h0l hrr
  have hrd := read_any ⟨y0t.toArray⟩
  rw [show (⟨y0t.toArray⟩ : ByteArray).data.toList = y0t from rfl] at hrd
  obtain ⟨rp, lf, er, hre⟩ : ∃ a b c, read y0t = (a, b, c) := ⟨_, _, _, rfl⟩
  rw [readV_of hre] at hrd
  rw [hre] at hrr
  dsimp only at hrr
  have H1 := Lib.hid (fun W => hrd W (by show y0t.length ≤ _; omega))
  obtain ⟨tp, htp⟩ : ∃ l, Lib.trimPrefix path rp = l := ⟨_, rfl⟩
  obtain ⟨hp, hhp⟩ : ∃ l, Lib.hasPrefix path rp = l := ⟨_, rfl⟩
  rw [cut_way htp hhp] at hrr
  have HALL := Lib.hid (cut_all htp hhp)
  have H2 := Lib.hid (fun W => cut_l htp hhp W)
  have HRR := Lib.hid hrr
  have HV := Lib.hid (hv1.mono (fun g hg => hg.1) : RZ z w _ _)
  have HWW := Lib.hid hw
  clear hrr hyn hat hr hr0 hre hrd htp hhp hxl hsm h2 hy0t
  have hlo := laid2 w (.cells #[.bool x.isList, .string ⟨x.text.toArray⟩, .slice (some ⟨g, o, none⟩) 2 c] 58) (.cells itemZ.toArray 58)
  have hq0 := (HasCells.new w [.bool x.isList, .string ⟨x.text.toArray⟩, .slice (some ⟨g, o, none⟩) 2 c] 58).alloc (.cells itemZ.toArray 58)
  have hz0 : HasCells ((w.alloc (.cells #[.bool x.isList, .string ⟨x.text.toArray⟩, .slice (some ⟨g, o, none⟩) 2 c] 58)).alloc (.cells itemZ.toArray 58)) (w.heap.size + 1) itemZ 58 := by
    have h := HasCells.new (w.alloc (.cells #[.bool x.isList, .string ⟨x.text.toArray⟩, .slice (some ⟨g, o, none⟩) 2 c] 58)) itemZ 58
    rwa [World.size_alloc] at h
  obtain ⟨w0, hw0⟩ : ∃ W, (w.alloc (.cells #[.bool x.isList, .string ⟨x.text.toArray⟩, .slice (some ⟨g, o, none⟩) 2 c] 58)).alloc (.cells itemZ.toArray 58) = W := ⟨_, rfl⟩
  have hsz0 : w0.heap.size = w.heap.size + 2 := by rw [← hw0]; simp
  rw [show (w.alloc (.cells ([.bool x.isList, .string ⟨x.text.toArray⟩, .slice (some ⟨g, o, none⟩) 2 c] : List Value).toArray 58)).alloc (.cells itemZ.toArray 58) = w0 from hw0] at hq0
  rw [hw0] at hz0 hlo
  have hw00 := hw.after hlo
  have hwb := hw.lt
  obtain ⟨t, htt⟩ : ∃ t, x.text = t := ⟨_, rfl⟩
  have HW0 := Lib.hid (show (w.alloc (.cells #[.bool true, .string ⟨t.toArray⟩, .slice (some ⟨g, o, none⟩) 2 c] 58)).alloc (.cells #[.bool false, .string ⟨#[]⟩, .slice none 0 0] 58) = w0 from by have hw1 := hw0; rw [hl, htt] at hw1; exact hw1)
  rw [hl, htt] at hq0 ⊢
  have HWC0 := Lib.hid hw00
  have HLO := Lib.hid hlo
  have HQ0 := Lib.hid hq0
  have HZ0 := Lib.hid hz0
  have HSZ := Lib.hid hsz0
  clear hl hw hlo hw0 hq0 hz0 htt hw00 hsz0
  have HC := Lib.hid (fun W (hb : Below w0.heap.size w0 W) => (show W.cell? ⟨g, o + 1, none⟩ = some (.string ⟨y0t.toArray⟩) ∧ W.cell? ⟨g, o + 3, none⟩ = some (.bool y1.isList) ∧ W.cell? ⟨g, o + 4, none⟩ = some (.string ⟨y1.text.toArray⟩) ∧ W.cell? ⟨g, o + 5, none⟩ = some (.slice q1 yn n1) from
    ⟨((hb.cell (p := ⟨g, o + 1, none⟩) (Nat.lt_of_lt_of_le hg HLO.out.size)).trans (HLO.out.cell (p := ⟨g, o + 1, none⟩) hg)).trans a01,
      ((hb.cell (p := ⟨g, o + 3, none⟩) (Nat.lt_of_lt_of_le hg HLO.out.size)).trans (HLO.out.cell (p := ⟨g, o + 3, none⟩) hg)).trans a10,
      ((hb.cell (p := ⟨g, o + 4, none⟩) (Nat.lt_of_lt_of_le hg HLO.out.size)).trans (HLO.out.cell (p := ⟨g, o + 4, none⟩) hg)).trans a11,
      ((hb.cell (p := ⟨g, o + 5, none⟩) (Nat.lt_of_lt_of_le hg HLO.out.size)).trans (HLO.out.cell (p := ⟨g, o + 5, none⟩) hg)).trans a12⟩))
  obtain ⟨c1, c3, c4, c5⟩ := HC.out _ (Below.refl _ _)
  have q2 := HQ0.out.cell (j := 2) rfl
  clear a01 a10 a11 a12 hv1
  go_enter Tryd.func41, Tryd.ntmps41
  go_wp2_with (rw [HW0.out])
  clear c1 c3 c4 c5 q2
  refine (H1.out _).mono ?_
  rintro e w1 ⟨rfl, hb1⟩
  have HW1 := Lib.hid (HWC0.out.after hb1)
  have HQ1 := Lib.hid (HQ0.out.after hb1)
  have HZ1 := Lib.hid (HZ0.out.after hb1)
  have HL1 := Lib.hid (HLO.out.trans (hb1.mono HLO.out.size))
  have c0 := HW1.out.cell (j := 0) rfl
  go_wp2_with fail
  refine (H2.out _).mono ?_
  rintro e w2 ⟨rfl, rfl⟩
  obtain ⟨-, c3, c4, c5⟩ := HC.out _ hb1
  have d0 := HW1.out.frozen 0
  have c2 := HW1.out.cell (j := 2) rfl
  have d2 := HW1.out.frozen 2
  have q2 := HQ1.out.cell (j := 2) rfl
  have f0 := HZ1.out.frozen 0
  have f1 := HZ1.out.frozen 1
  have f2 := HZ1.out.frozen 2
  have e0 := HZ1.out.cell (j := 0) rfl
  have e1 := HZ1.out.cell (j := 1) rfl
  have e2 := HZ1.out.cell (j := 2) rfl
  have m1 : ¬ wb = w.heap.size + 1 := by omega
  have m2 : ¬ w.heap.size + 1 = wb := by omega
  have m3 : ¬ wb = g := fun e => hgw e.symm
  have m4 : ¬ g = wb := hgw
  have m5 : ¬ wb = w.heap.size := by omega
  have m6 : ¬ w.heap.size = wb := by omega
  clear hb1 HC
  cases lf with
  | true =>
    cases hp with
    | false =>
      go_wp2_with fail
      have hf := ((HZ1.out.set 0 (.bool false)).set 1 (.string ⟨#[]⟩)).set 2 (.slice none 0 0)
      refine bodyPost_ret (results_cells2 rfl _ _ (w.heap.size + 1) [.bool false, .string ⟨#[]⟩, .slice none 0 0] _ (by rfl) (HasCells.kept hf rfl).range Tryd.underlying58 rfl infoItemS) rfl ?_
      have hrr : rr = .stop [] := by
        rw [← HRR.out]
        rw [if_pos trivial, if_neg (fun e => by have h := HALL.out.1 e; simp at h)]
      rw [hrr]
      have hu := Upd.above (wb := wb) (Upd.of_below HL1.out hB) (three_at (Below.refl w.heap.size _) (show w.heap.size ≤ w.heap.size + 1 by omega) (.bool false) (.string ⟨#[]⟩) (.slice none 0 0)) hB
      have hwf := HW1.out.threeOther m1 (.bool false) (.string ⟨#[]⟩) (.slice none 0 0)
      exact ⟨hu, false, _, _, _, _, ⟨path.toArray⟩, by rfl, hwf⟩
    | true =>
      cases tp with
      | nil =>
        go_wp2_with fail
        have hf := (((HZ1.out.setOther (i := 2) m2 (.string ⟨y1.text.toArray⟩)).set 0 (.bool false)).set 1 (.string ⟨#[]⟩)).set 2 (.slice none 0 0)
        refine bodyPost_ret (results_cells2 rfl _ _ (w.heap.size + 1) [.bool false, .string ⟨#[]⟩, .slice none 0 0] _ (by rfl) (HasCells.kept hf rfl).range Tryd.underlying58 rfl infoItemS) rfl ?_
        have hrr : rr = .stop y1.text := by
          rw [← HRR.out]
          rw [if_pos trivial, if_pos (HALL.out.2 (by simp))]
        rw [hrr]
        have hu := Upd.above ((Upd.of_below HL1.out hB).trans (Upd.set _ hBw 2 (.string ⟨y1.text.toArray⟩))) (three_at (Below.refl w.heap.size _) (show w.heap.size ≤ w.heap.size + 1 by omega) (.bool false) (.string ⟨#[]⟩) (.slice none 0 0)) hB
        have hwf := (HW1.out.set 2 (.string ⟨y1.text.toArray⟩)).threeOther m1 (.bool false) (.string ⟨#[]⟩) (.slice none 0 0)
        exact ⟨hu, false, _, _, _, _, ⟨path.toArray⟩, by rfl, hwf⟩
      | cons a ar =>
        go_wp2_with fail
        have hf := ((HZ1.out.set 0 (.bool false)).set 1 (.string ⟨#[]⟩)).set 2 (.slice none 0 0)
        refine bodyPost_ret (results_cells2 rfl _ _ (w.heap.size + 1) [.bool false, .string ⟨#[]⟩, .slice none 0 0] _ (by rfl) (HasCells.kept hf rfl).range Tryd.underlying58 rfl infoItemS) rfl ?_
        have hrr : rr = .stop [] := by
          rw [← HRR.out]
          rw [if_pos trivial, if_neg (fun e => by have h := HALL.out.1 e; simp at h)]
        rw [hrr]
        have hu := Upd.above (wb := wb) (Upd.of_below HL1.out hB) (three_at (Below.refl w.heap.size _) (show w.heap.size ≤ w.heap.size + 1 by omega) (.bool false) (.string ⟨#[]⟩) (.slice none 0 0)) hB
        have hwf := HW1.out.threeOther m1 (.bool false) (.string ⟨#[]⟩) (.slice none 0 0)
        exact ⟨hu, false, _, _, _, _, ⟨path.toArray⟩, by rfl, hwf⟩
  | false =>
    cases hp with
    | false =>
      go_wp2_with fail
      have hf := (((HZ1.out.setOther (i := 0) m2 (.string ⟨tp.toArray⟩)).set 0 (.bool y1.isList)).set 1 (.string ⟨y1.text.toArray⟩)).set 2 (.slice q1 yn n1)
      refine bodyPost_ret (results_cells2 rfl _ _ (w.heap.size + 1) [.bool y1.isList, .string ⟨y1.text.toArray⟩, .slice q1 yn n1] _ (by rfl) (HasCells.kept hf rfl).range Tryd.underlying58 rfl infoItemS) rfl ?_
      have hrr : rr = .stop [] := by
        rw [← HRR.out]
        rw [if_neg (by simp), if_neg (by simp)]
      rw [hrr]
      have hu := Upd.above ((Upd.of_below HL1.out hB).trans (Upd.set _ hBw 0 (.string ⟨tp.toArray⟩))) (three_at (Below.refl w.heap.size _) (show w.heap.size ≤ w.heap.size + 1 by omega) (.bool y1.isList) (.string ⟨y1.text.toArray⟩) (.slice q1 yn n1)) hB
      have hwf := (HW1.out.set 0 (.string ⟨tp.toArray⟩)).threeOther m1 (.bool y1.isList) (.string ⟨y1.text.toArray⟩) (.slice q1 yn n1)
      exact ⟨hu, y1.isList, _, _, _, _, ⟨tp.toArray⟩, by rfl, hwf⟩
    | true =>
      go_wp2_with fail
      have hf := (((HZ1.out.setOther (i := 0) m2 (.string ⟨tp.toArray⟩)).set 0 (.bool y1.isList)).set 1 (.string ⟨y1.text.toArray⟩)).set 2 (.slice q1 yn n1)
      refine bodyPost_ret (results_cells2 rfl _ _ (w.heap.size + 1) [.bool y1.isList, .string ⟨y1.text.toArray⟩, .slice q1 yn n1] _ (by rfl) (HasCells.kept hf rfl).range Tryd.underlying58 rfl infoItemS) rfl ?_
      have hrr : rr = .next y1 tp := by
        rw [← HRR.out]
        rw [if_neg (by simp), if_pos trivial]
      rw [hrr]
      have hu := Upd.above ((Upd.of_below HL1.out hB).trans (Upd.set _ hBw 0 (.string ⟨tp.toArray⟩))) (three_at (Below.refl w.heap.size _) (show w.heap.size ≤ w.heap.size + 1 by omega) (.bool y1.isList) (.string ⟨y1.text.toArray⟩) (.slice q1 yn n1)) hB
      have hwf := (HW1.out.set 0 (.string ⟨tp.toArray⟩)).threeOther m1 (.bool y1.isList) (.string ⟨y1.text.toArray⟩) (.slice q1 yn n1)
      exact ⟨hu, q1, yn, n1, by rfl, RZ.upd HV.out hu HWW.out ⟨_, _, _, rfl⟩, hwf⟩
/-- the walk's step -/
theorem walkStep_any (B wb z : Nat) (x : Item) (p : Option Addr) (n c : Nat) (path : List UInt8) (pp : Option Addr) (pn pc : Nat) (w : World) (hB : B ≤ w.heap.size) (hBw : B ≤ wb) (hx : isNodeP x = true) (hsm : Small x) (hpath : isPath path = true) (hlen : path.length ≤ 1099511627776) (hr : RZ z w (.slice p n c) x.list)
    (hw : HasCells w wb [.string ⟨path.toArray⟩, .slice pp pn pc, .string ⟨#[]⟩] 55) :
    Calls Tryd.prog 41 #[.pointer (some ⟨wb, 0, none⟩), .agg #[.bool x.isList, .string ⟨x.text.toArray⟩, .slice p n c]] w (StepRes B wb z (.slice pp pn pc) (stepP x path) w) := by
  rw [isNodeP_eq, Bool.and_eq_true] at hx
  obtain ⟨hl, hx⟩ := hx
  obtain ⟨p2, c2, e⟩ := ReadsIn.form hr
  cases e
  by_cases h17 : x.list.length = 17
  · rw [h17] at hr ⊢
    cases path with
    | nil => exact walkStep_end B wb z x p c pp pn pc w hB hBw hl h17 hr hw
    | cons a r =>
      have ha : a.toNat ≤ 15 := by
        unfold isPath at hpath
        rw [List.all_cons, Bool.and_eq_true] at hpath
        exact of_decide_eq_true hpath.1
      exact walkStep_half B wb z x p c a r pp pn pc w hB hBw hl h17 ha (by simp at hlen; omega) hr hw
  · rw [if_neg h17, Bool.and_eq_true] at hx
    have h2 := of_decide_eq_true hx.1
    rw [h2] at hr ⊢
    exact walkStep_two B wb z x p c path pp pn pc w hB hBw hl h2 hsm hr hw
end Go.Proofs.YthicdhnjincflaaDoor
