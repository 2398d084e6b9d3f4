/- The walks of the laws RlpBack and RlpApart: each returns true, and nothing that was there is changed. -/
import Derived.Test.YtjccllfgendpdaaDoorRlpW
import Derived.Test.YtjccllfgendpdaaDoorRlpM
import Derived.Test.YtjccllfgendpdaaDoorRlpT
namespace Go.Proofs.YtjccllfgendpdaaDoor
open Go.RowKit Go.Shelf Go.Lib

/-- an item that came in lies in a new block -/
def One (w : World) (x : Item) (u : Value) (W : World) : Prop := Below w.heap.size w W ∧ Box3 W w.heap.size (.bool x.isList) (.string ⟨x.text.toArray⟩) u
theorem One.start (w : World) (x : Item) (u : Value) : One w x u (w.alloc (.cells #[.bool x.isList, .string ⟨x.text.toArray⟩, u] 36)) := ⟨laid1 w _, Box3.new w _ _ _ _⟩
theorem One.step {w W W' : World} {x : Item} {u : Value} (h : One w x u W) (hb : Below W.heap.size W W') : One w x u W' :=
  ⟨h.1.trans (hb.mono h.1.size), h.2.kept (hb.block _ h.2.lt)⟩
theorem decode_cases (s : List UInt8) : (decode s).2 = 0 ∨ (decode s).2 ≠ 0 ∧ (decode s).1 = .none := by
  unfold decode
  split
  · exact .inr ⟨by simp, rfl⟩
  · split
    · split
      · exact .inr ⟨by simp, rfl⟩
      · exact .inl rfl
    · exact .inr ⟨by simp, rfl⟩
theorem decode_put (s : List UInt8) : (put (decode s).1).length ≤ 65536 := by
  rcases decode_cases s with h | ⟨_, h⟩
  · have h1 : encode (decode s).1 = (s, 0) := encode_decode (by rw [← h])
    obtain ⟨h2, _, _, h3⟩ := encode_ok h1
    rw [← h2]; exact h3
  · rw [h]; decide
theorem bool_ne {n : Int} (h : n ≠ 0) : (n != 0) = true := by simpa using h

set_option maxRecDepth 100000 in
set_option maxHeartbeats 3200000 in
theorem law_back (x : Item) (u : Value) (s : ByteArray) (w : World) (hr : Reads w w.heap.size u x.list) (hx : x.weight ≤ 1048576) (hs : s.size ≤ 1048576) :
    Calls Tryd.prog 9 #[.agg #[.bool x.isList, .string ⟨x.text.toArray⟩, u], .string s] w fun e w' => e = .returned (.bool true) ∧ Below w.heap.size w w' := by
  obtain ⟨p, c, rfl⟩ := hr.form
  have hx1 : x.size ≤ 1099511627776 := by have := size_weight x; omega
  have hx2 : (put x).length ≤ 1099511627776 := by have := put_weight x; omega
  obtain ⟨l, n, he⟩ : ∃ l n, encode x = (l, n) := ⟨_, _, rfl⟩
  have hll : l.length ≤ 65536 := by
    unfold encode at he
    repeat' split at he
    all_goals cases he
    all_goals first | omega | simp
  have HE := Lib.hid he
  have HR : Hid (∀ W, Below w.heap.size w W → Reads W W.heap.size (.slice p x.list.length c) x.list) := Lib.hid fun W hb => hr.below hb hb.size
  have H0 := Lib.hid fun W (hb : Below w.heap.size w W) => few_any x x _ _ W hx1 hx1 (HR.out W hb) (HR.out W hb)
  have H1 := Lib.hid fun W (hb : Below w.heap.size w W) => encode_lit he _ W hx1 hx2 (HR.out W hb)
  have H2 := Lib.hid fun W => decode_any l W (by omega)
  have e0 : (⟨s.data.toList.toArray⟩ : ByteArray) = s := by simp
  have h3 := fun W => decode_any s.data.toList W (by have : s.data.toList.length = s.size := rfl; omega)
  rw [e0] at h3
  have H3 := Lib.hid h3
  have hzs := decode_size s.data.toList
  have HZp := Lib.hid (decode_put s.data.toList)
  have HZs := Lib.hid (show (decode s.data.toList).1.size ≤ 1099511627776 by have : s.data.toList.length = s.size := rfl; omega)
  have HT := Lib.hid (One.start w x (.slice p x.list.length c))
  have HX1 := Lib.hid hx1
  clear hr hx1 hx2 hll he e0 h3 hzs hx hs
  go_enter Tryd.func9, Tryd.ntmps9
  go_wp2_with fail
  refine (shown_any _).mono ?_
  rintro e w1 ⟨rfl, hb1⟩
  have h1 := HT.out.step hb1
  have HT1 := Lib.hid h1
  obtain ⟨hB, ⟨q0, q1, q2, -⟩⟩ := h1
  have Hc := Lib.hid (H0.out w1 hB)
  clear HT hb1 hB
  go_wp2_with fail
  refine Hc.out.mono ?_
  rintro e w2 ⟨rfl, hb2⟩
  have h1 := HT1.out.step hb2
  have HT2 := Lib.hid h1
  clear q0 q1 q2 HT1 Hc hb2
  obtain ⟨hB, ⟨q0, q1, q2, -⟩⟩ := h1
  cases hf : fewB x x with
  | false =>
    go_wp2
    go_ret
    exact ⟨rfl, HT2.out.1⟩
  | true =>
    have Hc := Lib.hid (H1.out w2 hB)
    clear hB
    go_wp2_with fail
    refine Hc.out.mono ?_
    rintro e w3 ⟨rfl, hb3⟩
    have HT3 := Lib.hid (HT2.out.step hb3)
    clear q0 q1 q2 HT2 Hc hb3
    go_wp2_with fail
    refine (H2.out _).mono ?_
    rintro e w4 ⟨hb4, y, f, p4, c4, rfl, HD4, HR4⟩
    have HT4 := Lib.hid ((HT3.out.step hb4).step (laid1 w4 (.cells #[.bool y.isList, .string ⟨y.text.toArray⟩, .slice p4 y.list.length c4] 36)))
    have HY4 := Lib.hid (Box3.new w4 (.bool y.isList) (.string ⟨y.text.toArray⟩) (.slice p4 y.list.length c4) 36)
    clear hb4 HT3
    go_wp2_with fail
    refine (H3.out _).mono ?_
    rintro e w5 ⟨hb5, z, g, p5, c5, rfl, HD5, HR5⟩
    have HT5 := Lib.hid ((HT4.out.step hb5).step (laid1 w5 (.cells #[.bool z.isList, .string ⟨z.text.toArray⟩, .slice p5 z.list.length c5] 36)))
    have HY5 := Lib.hid ((HY4.out.kept (hb5.block _ HY4.out.lt)).kept (Below.heap_alloc w5 (.cells #[.bool z.isList, .string ⟨z.text.toArray⟩, .slice p5 z.list.length c5] 36) _ (Nat.lt_of_lt_of_le HY4.out.lt hb5.size)))
    have HRy := Lib.hid (((HR4.out.below (laid1 w4 (.cells #[.bool y.isList, .string ⟨y.text.toArray⟩, .slice p4 y.list.length c4] 36)) (by simp)).below hb5 hb5.size).below (laid1 w5 (.cells #[.bool z.isList, .string ⟨z.text.toArray⟩, .slice p5 z.list.length c5] 36)) (B' := (w5.alloc (.cells #[.bool z.isList, .string ⟨z.text.toArray⟩, .slice p5 z.list.length c5] 36)).heap.size) (by simp))
    obtain ⟨b, h, hez⟩ : ∃ b h, encode z = (b, h) := ⟨_, _, rfl⟩
    have HEz := Lib.hid hez
    have hz1 := HZs.out
    have hz2 := HZp.out
    rw [HD5.out] at hz1 hz2
    dsimp only at hz1 hz2
    have Hc := Lib.hid (encode_lit hez (.slice p5 z.list.length c5) (w5.alloc (.cells #[.bool z.isList, .string ⟨z.text.toArray⟩, .slice p5 z.list.length c5] 36)) hz1 (by omega) (HR5.out.below (laid1 w5 _) (by simp)))
    have hlt4 := HY5.out.lt
    clear hb5 HT4 HY4 hez hz1 hz2
    go_wp2_with fail
    refine Hc.out.mono ?_
    rintro e w6 ⟨rfl, hb6⟩
    have hT6 := HT5.out.step hb6
    have hY6 := HY5.out.kept (hb6.block _ HY5.out.lt)
    have HRy6 := Lib.hid (HRy.out.below hb6 hb6.size)
    have HB6 := Lib.hid hT6.1
    obtain ⟨hB, ⟨q0, q1, q2, -⟩⟩ := hT6
    obtain ⟨p0, p1, p2, -⟩ := hY6
    clear hb6 HT5 HY5 HRy Hc hlt4
    by_cases hn : n = 0
    · subst hn
      have hd := decode_encode HE.out
      obtain ⟨rfl, rfl⟩ : y = x ∧ f = 0 := by rw [hd] at HD4; have := HD4.out; cases this; exact ⟨rfl, rfl⟩
      have hS := sameRef_any 1099511627776 (by omega) y y (.slice p y.list.length c) (.slice p4 y.list.length c4) w6 HX1.out HX1.out (HR.out w6 hB) HRy6.out
      rw [same_refl] at hS
      have HS := Lib.hid hS
      clear hS hd hB HD4
      by_cases hg : g = 0
      · subst hg
        have he2 := encode_decode HD5.out
        obtain ⟨rfl, rfl⟩ : s.data.toList = b ∧ 0 = h := by have := HEz.out; rw [he2] at this; cases this; exact ⟨rfl, rfl⟩
        have e0 : (⟨s.data.toList.toArray⟩ : ByteArray) = s := by simp
        clear he2 HEz HD5
        go_wp2_with fail
        refine HS.out.mono ?_
        rintro e w7 ⟨rfl, hb7⟩
        have HB7 := Lib.hid (HB6.out.trans (hb7.mono HB6.out.size))
        clear hb7
        go_wp2
        go_ret
        exact ⟨ret_true (by simp), HB7.out⟩
      · have g1 := bool_ne hg
        go_wp2_with fail
        refine HS.out.mono ?_
        rintro e w7 ⟨rfl, hb7⟩
        have HB7 := Lib.hid (HB6.out.trans (hb7.mono HB6.out.size))
        clear hb7
        go_wp2
        go_ret
        exact ⟨ret_true (by simp), HB7.out⟩
    · have n1 := bool_ne hn
      clear hB
      by_cases hg : g = 0
      · subst hg
        have he2 := encode_decode HD5.out
        obtain ⟨rfl, rfl⟩ : s.data.toList = b ∧ 0 = h := by have := HEz.out; rw [he2] at this; cases this; exact ⟨rfl, rfl⟩
        have e0 : (⟨s.data.toList.toArray⟩ : ByteArray) = s := by simp
        clear he2 HEz HD5
        go_wp2
        go_ret
        exact ⟨ret_true (by simp), HB6.out⟩
      · have g1 := bool_ne hg
        go_wp2
        go_ret
        exact ⟨ret_true (by simp), HB6.out⟩
end Go.Proofs.YtjccllfgendpdaaDoor
