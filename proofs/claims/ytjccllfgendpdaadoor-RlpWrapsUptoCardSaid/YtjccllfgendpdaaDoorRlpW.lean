/- The walks of the laws of two items, RlpEncodes and RlpWraps: each returns true, and nothing that was there is changed. -/
import Derived.Test.YtjccllfgendpdaaDoorFewA
import Derived.Test.YtjccllfgendpdaaDoorItmO
import Derived.Deep.RegionHeld3
namespace Go.Proofs.YtjccllfgendpdaaDoor
open Go.RowKit Go.Shelf Go.Lib

/-- two items that came in lie in two new blocks -/
def Two (w : World) (x y : Item) (u v : Value) (W : World) : Prop :=
  Below w.heap.size w W ∧ Box3 W w.heap.size (.bool x.isList) (.string ⟨x.text.toArray⟩) u ∧ Box3 W (w.heap.size + 1) (.bool y.isList) (.string ⟨y.text.toArray⟩) v
theorem Two.start (w : World) (x y : Item) (u v : Value) : Two w x y u v ((w.alloc (.cells #[.bool x.isList, .string ⟨x.text.toArray⟩, u] 36)).alloc (.cells #[.bool y.isList, .string ⟨y.text.toArray⟩, v] 36)) := by
  have hb := Box3.new (w.alloc (.cells #[.bool x.isList, .string ⟨x.text.toArray⟩, u] 36)) (.bool y.isList) (.string ⟨y.text.toArray⟩) v 36
  exact ⟨(laid1 w _).alloc (by simp) _, (Box3.new w _ _ _ _).kept (Below.heap_alloc _ _ _ (by simp)), by simpa using hb⟩
theorem Two.step {w W W' : World} {x y : Item} {u v : Value} (h : Two w x y u v W) (hb : Below W.heap.size W W') : Two w x y u v W' :=
  ⟨h.1.trans (hb.mono h.1.size), h.2.1.kept (hb.block _ h.2.1.lt), h.2.2.kept (hb.block _ h.2.2.lt)⟩
theorem two_next {w wx w' : World} {x y : Item} {u v : Value} (h : wx.cell? ⟨w.heap.size, 0, none⟩ = some (.bool x.isList) ∧ wx.cell? ⟨w.heap.size, 1, none⟩ = some (.string ⟨x.text.toArray⟩) ∧ wx.cell? ⟨w.heap.size, 2, none⟩ = some u ∧
    wx.cell? ⟨w.heap.size + 1, 0, none⟩ = some (.bool y.isList) ∧ wx.cell? ⟨w.heap.size + 1, 1, none⟩ = some (.string ⟨y.text.toArray⟩) ∧ wx.cell? ⟨w.heap.size + 1, 2, none⟩ = some v ∧ Below w.heap.size w wx) (hb : Below wx.heap.size wx w') :
    w'.cell? ⟨w.heap.size, 0, none⟩ = some (.bool x.isList) ∧ w'.cell? ⟨w.heap.size, 1, none⟩ = some (.string ⟨x.text.toArray⟩) ∧ w'.cell? ⟨w.heap.size, 2, none⟩ = some u ∧
    w'.cell? ⟨w.heap.size + 1, 0, none⟩ = some (.bool y.isList) ∧ w'.cell? ⟨w.heap.size + 1, 1, none⟩ = some (.string ⟨y.text.toArray⟩) ∧ w'.cell? ⟨w.heap.size + 1, 2, none⟩ = some v ∧ Below w.heap.size w w' := by
  obtain ⟨h1, h2, h3, h4, h5, h6, h7⟩ := h
  have k : ∀ a u, wx.cell? a = some u → w'.cell? a = some u := fun a u h => (hb.cell (World.block_lt_of_cell? _ _ h)).trans h
  exact ⟨k _ _ h1, k _ _ h2, k _ _ h3, k _ _ h4, k _ _ h5, k _ _ h6, h7.trans (hb.mono h7.size)⟩
theorem encode_lit {x : Item} {l : List UInt8} {n : Int} (h : encode x = (l, n)) (v : Value) (w : World) (hx : x.size ≤ 1099511627776) (hp : (put x).length ≤ 1099511627776) (hr : Reads w w.heap.size v x.list) :
    Calls Tryd.prog 32 #[.agg #[.bool x.isList, .string ⟨x.text.toArray⟩, v]] w fun e w' => e = .returned (.tuple #[.string ⟨l.toArray⟩, .int .i64 n]) ∧ Below w.heap.size w w' := by
  have e : encodeV x = .tuple #[.string ⟨l.toArray⟩, .int .i64 n] := by unfold encodeV; rw [h]
  rw [← e]
  exact encode_any x v w hx hp hr
theorem encodeRef_lit {x : Item} {l : List UInt8} {n : Int} (h : encode x = (l, n)) (v : Value) (w : World) (hx : x.size ≤ 1099511627776) (hp : (put x).length ≤ 1099511627776) (hr : Reads w w.heap.size v x.list) :
    Calls Tryd.prog 33 #[.agg #[.bool x.isList, .string ⟨x.text.toArray⟩, v]] w fun e w' => e = .returned (.tuple #[.string ⟨l.toArray⟩, .int .i64 n]) ∧ Below w.heap.size w w' := by
  have e : encodeV x = .tuple #[.string ⟨l.toArray⟩, .int .i64 n] := by unfold encodeV; rw [h]
  rw [← e]
  exact encodeRef_any x v w hx hp hr

set_option maxRecDepth 100000 in
set_option maxHeartbeats 1600000 in
theorem law_encodes (x : Item) (u : Value) (y : Item) (v : Value) (w : World) (hr : Reads w w.heap.size u x.list) (hx : x.weight ≤ 1048576) (hr2 : Reads w w.heap.size v y.list) (hy : y.weight ≤ 1048576) :
    Calls Tryd.prog 12 #[.agg #[.bool x.isList, .string ⟨x.text.toArray⟩, u], .agg #[.bool y.isList, .string ⟨y.text.toArray⟩, v]] w fun e w' => e = .returned (.bool true) ∧ Below w.heap.size w w' := by
  obtain ⟨p, c, rfl⟩ := hr.form
  obtain ⟨p2, c2, rfl⟩ := hr2.form
  have hx1 : x.size ≤ 1099511627776 := by have := size_weight x; omega
  have hy1 : y.size ≤ 1099511627776 := by have := size_weight y; omega
  have hx2 : (put x).length ≤ 1099511627776 := by have := put_weight x; omega
  obtain ⟨l, n, he⟩ : ∃ l n, encode x = (l, n) := ⟨_, _, rfl⟩
  obtain ⟨b, hb⟩ : ∃ b, same x y = b := ⟨_, rfl⟩
  have HR : Hid (∀ W, Below w.heap.size w W → Reads W W.heap.size (.slice p x.list.length c) x.list ∧ Reads W W.heap.size (.slice p2 y.list.length c2) y.list) := Lib.hid fun W hb => ⟨hr.below hb hb.size, hr2.below hb hb.size⟩
  have H0 := Lib.hid fun W (hb : Below w.heap.size w W) => few_any x y _ _ W hx1 hy1 (HR.out W hb).1 (HR.out W hb).2
  have H1 := Lib.hid fun W (hb : Below w.heap.size w W) => encode_lit he _ W hx1 hx2 (HR.out W hb).1
  have H2 := Lib.hid fun W (hb : Below w.heap.size w W) => encodeRef_lit he _ W hx1 hx2 (HR.out W hb).1
  have h3 := fun W (hb : W.cell? ⟨w.heap.size, 0, none⟩ = some (.bool x.isList) ∧ W.cell? ⟨w.heap.size, 1, none⟩ = some (.string ⟨x.text.toArray⟩) ∧ W.cell? ⟨w.heap.size, 2, none⟩ = some (.slice p x.list.length c) ∧
      W.cell? ⟨w.heap.size + 1, 0, none⟩ = some (.bool y.isList) ∧ W.cell? ⟨w.heap.size + 1, 1, none⟩ = some (.string ⟨y.text.toArray⟩) ∧ W.cell? ⟨w.heap.size + 1, 2, none⟩ = some (.slice p2 y.list.length c2) ∧ Below w.heap.size w W) => same_any 1099511627776 (by omega) x y _ _ W hx1 hy1 (HR.out W hb.2.2.2.2.2.2).1 (HR.out W hb.2.2.2.2.2.2).2
  have h4 := fun W (hb : W.cell? ⟨w.heap.size, 0, none⟩ = some (.bool x.isList) ∧ W.cell? ⟨w.heap.size, 1, none⟩ = some (.string ⟨x.text.toArray⟩) ∧ W.cell? ⟨w.heap.size, 2, none⟩ = some (.slice p x.list.length c) ∧
      W.cell? ⟨w.heap.size + 1, 0, none⟩ = some (.bool y.isList) ∧ W.cell? ⟨w.heap.size + 1, 1, none⟩ = some (.string ⟨y.text.toArray⟩) ∧ W.cell? ⟨w.heap.size + 1, 2, none⟩ = some (.slice p2 y.list.length c2) ∧ Below w.heap.size w W) => sameRef_any 1099511627776 (by omega) x y _ _ W hx1 hy1 (HR.out W hb.2.2.2.2.2.2).1 (HR.out W hb.2.2.2.2.2.2).2
  rw [hb] at h3 h4
  have H3 := Lib.hid h3
  have H4 := Lib.hid h4
  have HT := Lib.hid (Two.start w x y (.slice p x.list.length c) (.slice p2 y.list.length c2))
  clear hr hr2 hx1 hy1 hx2 he hb h3 h4 hx hy
  go_enter Tryd.func12, Tryd.ntmps12
  go_wp2_with fail
  refine (shown_any _).mono ?_
  rintro e w1 ⟨rfl, hb1⟩
  have h1 := HT.out.step hb1
  have HT1 := Lib.hid h1
  obtain ⟨hB, ⟨q0, q1, q2, -⟩, ⟨p0, p1, p2', -⟩⟩ := h1
  have Hc := Lib.hid (H0.out w1 hB)
  clear HT hb1 hB
  go_wp2_with fail
  refine Hc.out.mono ?_
  rintro e w2 ⟨rfl, hb2⟩
  have h1 := HT1.out.step hb2
  have HT2 := Lib.hid h1
  clear q0 q1 q2 p0 p1 p2' HT1 Hc hb2
  obtain ⟨hB, ⟨q0, q1, q2, -⟩, ⟨p0, p1, p2', -⟩⟩ := h1
  cases hf : fewB x y with
  | false =>
    go_wp2
    go_ret
    exact ⟨rfl, HT2.out.1⟩
  | true =>
    have Hc := Lib.hid (H1.out w2 hB)
    clear hB
    go_wp2_with fail
    refine Hc.out.mono ?_
    rintro e w3 ⟨rfl, hb3⟩
    have h1 := HT2.out.step hb3
    have HT3 := Lib.hid h1
    clear q0 q1 q2 p0 p1 p2' HT2 Hc hb3
    obtain ⟨hB, ⟨q0, q1, q2, -⟩, ⟨p0, p1, p2', -⟩⟩ := h1
    have Hc := Lib.hid (H2.out w3 hB)
    clear hB
    go_wp2_with fail
    refine Hc.out.mono ?_
    rintro e w4 ⟨rfl, hb4⟩
    have h1 := HT3.out.step hb4
    have HT4 := Lib.hid h1
    clear q0 q1 q2 p0 p1 p2' HT3 Hc hb4
    obtain ⟨hB, ⟨q0, q1, q2, -⟩, ⟨p0, p1, p2', -⟩⟩ := h1
    have hS : w4.cell? ⟨w.heap.size, 0, none⟩ = some (.bool x.isList) ∧ w4.cell? ⟨w.heap.size, 1, none⟩ = some (.string ⟨x.text.toArray⟩) ∧ w4.cell? ⟨w.heap.size, 2, none⟩ = some (.slice p x.list.length c) ∧
      w4.cell? ⟨w.heap.size + 1, 0, none⟩ = some (.bool y.isList) ∧ w4.cell? ⟨w.heap.size + 1, 1, none⟩ = some (.string ⟨y.text.toArray⟩) ∧ w4.cell? ⟨w.heap.size + 1, 2, none⟩ = some (.slice p2 y.list.length c2) ∧ Below w.heap.size w w4 := ⟨q0, q1, q2, p0, p1, p2', hB⟩
    clear q0 q1 q2 p0 p1 p2' hB
    go_wp2_with fail
    go_region_held3 (fun w' => w'.cell? ⟨w.heap.size, 0, none⟩ = some (.bool x.isList) ∧ w'.cell? ⟨w.heap.size, 1, none⟩ = some (.string ⟨x.text.toArray⟩) ∧ w'.cell? ⟨w.heap.size, 2, none⟩ = some (.slice p x.list.length c) ∧
      w'.cell? ⟨w.heap.size + 1, 0, none⟩ = some (.bool y.isList) ∧ w'.cell? ⟨w.heap.size + 1, 1, none⟩ = some (.string ⟨y.text.toArray⟩) ∧ w'.cell? ⟨w.heap.size + 1, 2, none⟩ = some (.slice p2 y.list.length c2) ∧ Below w.heap.size w w')
      (first | exact hS | exact two_next (by assumption) hb' | exact two_next (by assumption) (Below.refl _ _).drew)
      (first | (go_at_call 34; refine (H3.out _ ?_).mono ?_; assumption; rintro e w' ⟨rfl, hb'⟩) | (go_at_call 26; refine (H4.out _ ?_).mono ?_; assumption; rintro e w' ⟨rfl, hb'⟩))
    rename_i hHeld
    have hR := hHeld.2.2.2.2.2.2
    clear hHeld hb' hS
    go_wp2
    go_ret
    exact ⟨ret_true (by simp), hR⟩
end Go.Proofs.YtjccllfgendpdaaDoor
