/- What the walks take: ItmJ, ItmRow, TakA. -/
import Derived.Test.YthicdhnjincflaaDoorS8
import Derived.Deep.RegionHeld3
import Derived.BigQuiet
namespace Go.Proofs.YthicdhnjincflaaDoor
open Go.RowKit Go.Shelf Go.Lib
end Go.Proofs.YthicdhnjincflaaDoor
/- Contracts of Encode, the program's and the reference's. -/
namespace Go.Proofs.YthicdhnjincflaaDoor
open Go.RowKit Go.Shelf Go.Lib
/-- what Encode gives -/
def encodeV (x : Item) : Value := .tuple #[.string ⟨(encode x).1.toArray⟩, .int .i64 (encode x).2]
theorem encodeV_deep {x : Item} (h : deep x 12 = true) : encodeV x = .tuple #[.string ⟨#[]⟩, .int .i64 41] := by unfold encodeV encode; rw [if_pos h]
theorem encodeV_wrong {x : Item} (h : deep x 12 = false) (h2 : wrong x = true) : encodeV x = .tuple #[.string ⟨#[]⟩, .int .i64 2] := by unfold encodeV encode; rw [h, h2]; rfl
theorem encodeV_long {x : Item} (h : deep x 12 = false) (h2 : wrong x = false) (h3 : (put x).length > 65536) : encodeV x = .tuple #[.string ⟨#[]⟩, .int .i64 42] := by unfold encodeV encode; rw [h, h2, if_neg (by simp), if_neg (by simp), if_pos h3]
theorem encodeV_good {x : Item} (h : deep x 12 = false) (h2 : wrong x = false) (h3 : ¬ (put x).length > 65536) : encodeV x = .tuple #[.string ⟨(put x).toArray⟩, .int .i64 0] := by unfold encodeV encode; rw [h, h2, if_neg (by simp), if_neg (by simp), if_neg h3]
set_option maxRecDepth 100000 in
set_option maxHeartbeats 1600000 in
theorem encode_any (x : Item) (v : Value) (w : World) (hx : x.size ≤ 1099511627776) (hp : (put x).length ≤ 1099511627776) (hr : Reads w w.heap.size v x.list) :
    Calls Tryd.prog 112 #[.agg #[.bool x.isList, .string ⟨x.text.toArray⟩, v]] w fun e w' => e = .returned (encodeV x) ∧ Below w.heap.size w w' := by
  obtain ⟨p, c, rfl⟩ := hr.form
  have hd := Lib.hid (deep_any 1099511627776 (by omega) x 12 (.slice p x.list.length c) (w.alloc (.cells #[.bool x.isList, .string ⟨x.text.toArray⟩, .slice p x.list.length c] 58)) hx (by omega) (hr.below (laid1 _ _) (by rw [laid1_size]; omega)))
  have Hr := Lib.hid hr
  clear hr
  cases hq : deep x 12 with
  | true =>
    rw [encodeV_deep hq]
    rw [hq] at hd
    go_enter Tryd.func112, Tryd.ntmps112
    go_wp2_with fail
    refine hd.out.mono ?_
    rintro e w1 ⟨rfl, hb1⟩
    have hR := (laid1 w _).trans (hb1.mono (by rw [laid1_size]; omega))
    clear hb1
    go_wp2
    go_ret2
    exact ⟨rfl, hR⟩
  | false =>
    rw [hq] at hd
    have hc0 : ∀ i u, (#[.bool x.isList, .string ⟨x.text.toArray⟩, .slice p x.list.length c] : Array Value)[i]? = some u → ∀ w1, Below (w.alloc (.cells #[.bool x.isList, .string ⟨x.text.toArray⟩, .slice p x.list.length c] 58)).heap.size (w.alloc (.cells #[.bool x.isList, .string ⟨x.text.toArray⟩, .slice p x.list.length c] 58)) w1 → w1.cell? ⟨w.heap.size, i, none⟩ = some u := fun i u hu w1 hb => by
      rw [hb.cell (p := ⟨w.heap.size, i, none⟩) (by rw [laid1_size]; exact Nat.lt_succ_self _), World.cell?_alloc_new]
      exact hu
    have Hc := Lib.hid hc0
    clear hc0
    cases hq2 : wrong x with
    | true =>
      rw [encodeV_wrong hq hq2]
      go_enter Tryd.func112, Tryd.ntmps112
      go_wp2_with fail
      refine hd.out.mono ?_
      rintro e w1 ⟨rfl, hb1⟩
      have c0 := Hc.out 0 _ rfl w1 hb1
      have c1 := Hc.out 1 _ rfl w1 hb1
      have c2 := Hc.out 2 _ rfl w1 hb1
      have hR := (laid1 w _).trans (hb1.mono (by rw [laid1_size]; omega))
      clear hb1
      have HR := Lib.hid hR
      clear hR
      go_wp2_with fail
      refine (wrong_any 1099511627776 (by omega) x _ w1 hx (Hr.out.below HR.out HR.out.size)).mono ?_
      rintro e w2 ⟨rfl, hb2⟩
      have hR2 := HR.out.trans (hb2.mono HR.out.size)
      rw [hq2]
      clear hb2
      go_wp2
      go_ret2
      exact ⟨rfl, hR2⟩
    | false =>
      have hcase : ((put x).length > 65536 ∧ encodeV x = .tuple #[.string ⟨#[]⟩, .int .i64 42]) ∨ (¬ (put x).length > 65536 ∧ encodeV x = .tuple #[.string ⟨(put x).toArray⟩, .int .i64 0]) := by
        by_cases h : (put x).length > 65536
        · exact .inl ⟨h, encodeV_long hq hq2 h⟩
        · exact .inr ⟨h, encodeV_good hq hq2 h⟩
      obtain ⟨L, hL⟩ : ∃ L, put x = L := ⟨_, rfl⟩
      rw [hL] at hcase
      have HL := Lib.hid hL
      have Hp := Lib.hid hp
      clear hL hp
      rcases hcase with ⟨hl, he⟩ | ⟨hl, he⟩
      all_goals
        rw [he]
        clear he
        first
          | have hl1 : (65536 : Int) < L.length := by omega
          | have hl1 : ¬ (65536 : Int) < L.length := by omega
        go_enter Tryd.func112, Tryd.ntmps112
        go_wp2_with fail
        refine hd.out.mono ?_
        rintro e w1 ⟨rfl, hb1⟩
        have c0 := Hc.out 0 _ rfl w1 hb1
        have c1 := Hc.out 1 _ rfl w1 hb1
        have c2 := Hc.out 2 _ rfl w1 hb1
        have hR := (laid1 w _).trans (hb1.mono (by rw [laid1_size]; omega))
        have HB1 := Lib.hid hb1
        clear hb1
        have HR := Lib.hid hR
        clear hR
        go_wp2_with fail
        refine (wrong_any 1099511627776 (by omega) x _ w1 hx (Hr.out.below HR.out HR.out.size)).mono ?_
        rintro e w2 ⟨rfl, hb2⟩
        have hR2 := HR.out.trans (hb2.mono HR.out.size)
        have hb3 := HB1.out.trans (hb2.mono HB1.out.size)
        rw [hq2]
        have d0 := Hc.out 0 _ rfl w2 hb3
        have d1 := Hc.out 1 _ rfl w2 hb3
        have d2 := Hc.out 2 _ rfl w2 hb3
        clear hb2 hb3 c0 c1 c2
        have HR2 := Lib.hid hR2
        clear hR2
        go_wp2_with fail
        refine (put_any 1099511627776 (by omega) x _ w2 hx Hp.out (Hr.out.below HR2.out HR2.out.size)).mono ?_
        rintro e w3 ⟨rfl, hb4⟩
        rw [HL.out]
        have hR3 := HR2.out.trans (hb4.mono HR2.out.size)
        clear hb4
        go_wp2
        go_ret2
        exact ⟨rfl, hR3⟩
end Go.Proofs.YthicdhnjincflaaDoor

namespace Go.Proofs.YthicdhnjincflaaDoor
open Go.RowKit Go.Shelf Go.Lib
/-- the cells of items, each with its list's value -/
def itemCells (l : List (Item × Value)) : List Value := l.flatMap fun q => [.bool q.1.isList, .string ⟨q.1.text.toArray⟩, q.2]
theorem itemCells_at (l : List (Item × Value)) (i j : Nat) (q : Item × Value) (h : l[i]? = some q) (hj : j < 3) : (itemCells l)[i * 3 + j]? = [Value.bool q.1.isList, .string ⟨q.1.text.toArray⟩, q.2][j]? := by
  induction l generalizing i with
  | nil => simp at h
  | cons p r ih =>
    have e : itemCells (p :: r) = [Value.bool p.1.isList, .string ⟨p.1.text.toArray⟩, p.2] ++ itemCells r := rfl
    rw [e]
    cases i with
    | zero =>
      simp at h; subst h
      rw [List.getElem?_append_left (by simp; omega)]
      simp
    | succ i =>
      rw [List.getElem?_append_right (by simp; omega)]
      have := ih i (by simpa using h)
      rw [← this]
      congr 1
      simp; omega
/-- a row of items of the call's own, from block base on -/
def OwnI (base : Nat) (w : World) (v : Value) (l : List (Item × Value)) : Prop := w.ownsRow base 58 3 v l.length (itemCells l)
theorem OwnI.nil (base : Nat) (w : World) : OwnI base w (.slice none 0 0) [] := World.ownsRow_nil _ _ _ _
theorem OwnI.reads {base : Nat} {w : World} {v : Value} {l : List (Item × Value)} (h : OwnI base w v l) (hr : ∀ (i : Nat) (q : Item × Value), l[i]? = some q → Reads w w.heap.size q.2 q.1.list) : Reads w w.heap.size v (l.map Prod.fst) := by
  have h' := h
  obtain ⟨_, ⟨rfl, hn⟩ | ⟨g, cap, cur, rfl, hb, hg, hcap, _⟩⟩ := h
  · obtain rfl : l = [] := List.length_eq_zero_iff.1 hn
    exact Reads.nil _ _
  · have hm : (l.map Prod.fst).length = l.length := by simp
    rw [← hm]
    refine Reads.mk (Array.getElem?_eq_some_iff.1 hg).1 (fun i x hx => ?_) (by rw [hm]; exact hcap)
    rw [List.getElem?_map] at hx
    cases hq : l[i]? with
    | none => rw [hq] at hx; cases hx
    | some q =>
      rw [hq] at hx
      cases hx
      have hi := (List.getElem?_eq_some_iff.1 hq).1
      have hc := fun j (hj : j < 3) => World.ownsRow.cellAt h' (i * 3 + j) (by omega)
      refine ⟨?_, ?_, q.2, ?_, hr i q hq⟩
      · have := hc 0 (by omega); rw [itemCells_at l i 0 q hq (by omega)] at this; simpa using this
      · have := hc 1 (by omega); rw [itemCells_at l i 1 q hq (by omega)] at this; simpa using this
      · have := hc 2 (by omega); rw [itemCells_at l i 2 q hq (by omega)] at this; simpa using this
end Go.Proofs.YthicdhnjincflaaDoor

namespace Go.Proofs.YthicdhnjincflaaDoor
open Go.RowKit Go.Shelf Go.Lib
theorem loadItem (w : World) (g : Nat) (v0 v1 v2 : Value) (h0 : w.cell? ⟨g, 0, none⟩ = some v0) (h1 : w.cell? ⟨g, 1, none⟩ = some v1) (h2 : w.cell? ⟨g, 2, none⟩ = some v2) :
    (loadVar 58 ⟨g, 0, none⟩).run Tryd.prog w = .ok (.agg #[v0, v1, v2]) w := by
  simp [go_sem, loadVar, h0, h1, h2, Tryd.isAgg58, Tryd.sizeOf58]
end Go.Proofs.YthicdhnjincflaaDoor
