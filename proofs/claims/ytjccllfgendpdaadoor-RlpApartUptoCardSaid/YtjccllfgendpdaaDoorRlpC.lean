/- The walk of the law RlpApart: it returns true, and nothing that was there is changed. -/
import Derived.Test.YtjccllfgendpdaaDoorRlpB
namespace Go.Proofs.YtjccllfgendpdaaDoor
open Go.RowKit Go.Shelf Go.Lib

set_option maxRecDepth 100000 in
set_option maxHeartbeats 3200000 in
theorem law_apart (x : Item) (u : Value) (s : ByteArray) (w : World) (hr : Reads w w.heap.size u x.list) (hx : x.weight ≤ 1048576) (hs : s.size ≤ 1048576) :
    Calls Tryd.prog 10 #[.agg #[.bool x.isList, .string ⟨x.text.toArray⟩, u], .string s] w fun e w' => e = .returned (.bool true) ∧ Below w.heap.size w w' := by
  obtain ⟨p, c, rfl⟩ := hr.form
  have hx1 : x.size ≤ 1099511627776 := by have := size_weight x; omega
  have hx2 : (put x).length ≤ 1099511627776 := by have := put_weight x; omega
  obtain ⟨l, n, he⟩ : ∃ l n, encode x = (l, n) := ⟨_, _, rfl⟩
  have hll : l.length ≤ 65536 := by
    unfold encode at he
    repeat' split at he
    all_goals cases he
    all_goals first | omega | simp
  obtain ⟨t, ht⟩ : ∃ t, s.data.toList = t := ⟨_, rfl⟩
  have htl : t.length ≤ 1048576 := by rw [← ht]; exact hs
  have e0 : (⟨t.toArray⟩ : ByteArray) = s := by rw [← ht]
  subst e0
  clear ht hs
  have HE := Lib.hid he
  have HR : Hid (∀ W, Below w.heap.size w W → Reads W W.heap.size (.slice p x.list.length c) x.list) := Lib.hid fun W hb => hr.below hb hb.size
  have H0 := Lib.hid fun W (hb : Below w.heap.size w W) => few_any x x _ _ W hx1 hx1 (HR.out W hb) (HR.out W hb)
  have H1 := Lib.hid fun W (hb : Below w.heap.size w W) => encode_lit he _ W hx1 hx2 (HR.out W hb)
  have HT := Lib.hid (One.start w x (.slice p x.list.length c))
  clear hr hx1 hx2 he hx
  go_enter Tryd.func10, Tryd.ntmps10
  go_wp2_with fail
  refine (shown_any _).mono ?_
  rintro e w1 ⟨rfl, hb1⟩
  have h1 := HT.out.step hb1
  have HT1 := Lib.hid h1
  obtain ⟨hB, ⟨q0, q1, q2, -⟩⟩ := h1
  have Hc := Lib.hid (H0.out w1 hB)
  clear HT hb1 hB
  go_wp2_with fail
  refine Hc.out.mono ?_
  rintro e w2 ⟨rfl, hb2⟩
  have h1 := HT1.out.step hb2
  have HT2 := Lib.hid h1
  clear q0 q1 q2 HT1 Hc hb2
  obtain ⟨hB, ⟨q0, q1, q2, -⟩⟩ := h1
  cases hf : fewB x x with
  | false =>
    go_wp2
    go_ret
    exact ⟨rfl, HT2.out.1⟩
  | true =>
    have Hc := Lib.hid (H1.out w2 hB)
    clear hB
    go_wp2_with fail
    refine Hc.out.mono ?_
    rintro e w3 ⟨rfl, hb3⟩
    have HB3 := Lib.hid (HT2.out.step hb3).1
    clear q0 q1 q2 HT2 Hc hb3
    by_cases hn : n = 0
    · subst hn
      cases t with
      | nil =>
        go_wp2
        go_ret
        exact ⟨rfl, HB3.out⟩
      | cons d r =>
        obtain ⟨t, ht⟩ : ∃ t, d :: r = t := ⟨_, rfl⟩
        have HT := Lib.hid (show t ≠ [] by rw [← ht]; simp)
        have hte : t.isEmpty = false := by rw [← ht]; rfl
        rw [ht] at htl ⊢
        clear ht
        obtain ⟨e1, e2, e3, e4⟩ := encode_ok HE.out
        have HL := Lib.hid (show l ≠ [] by rw [e1]; exact put_ne x)
        clear e1 e2 e3 e4
        have hle : l.isEmpty = false := by
          cases l with
          | nil => exact absurd rfl HL.out
          | cons a b => rfl
        have hl0 : (0 : Int) < l.length := by
          have := List.length_pos_iff.2 HL.out
          omega
        by_cases hb : l.length + t.length ≤ 65536
        · have g1 : (l.length : Int) + t.length ≤ 65536 := by omega
          have d1 := decode_behind HE.out HT.out hb
          have d2 := decode_less HE.out
          have HD1 := Lib.hid fun W => decode_any (l ++ t) W (by rw [List.length_append]; omega)
          have HD2 := Lib.hid fun W => decode_any (l.take (l.length - 1)) W (by rw [List.length_take]; omega)
          have D1 := Lib.hid d1
          have D2 := Lib.hid d2
          have ha := Lib.hid (app_mk l t)
          have hx := Lib.hid (show (⟨l.toArray⟩ : ByteArray).extract 0 (l.length - 1) = ⟨(l.take (l.length - 1)).toArray⟩ by rw [ext_mk]; rfl)
          clear d1 d2
          have hax := ha.out
          have hxx := hx.out
          go_wp2_with fail
          refine (HD1.out _).mono ?_
          rintro e w4 ⟨hb4, y, f, p4, c4, rfl, HD4, HR4⟩
          obtain ⟨rfl, rfl⟩ : y = .none ∧ f = 40 := by have := D1.out; rw [HD4.out] at this; cases this; exact ⟨rfl, rfl⟩
          have HB4 := Lib.hid ((HB3.out.trans (hb4.mono HB3.out.size)).trans ((laid1 w4 (.cells #[.bool false, .string ⟨#[]⟩, .slice p4 0 c4] 36)).mono (by have h1 := HB3.out.size; have h2 := hb4.size; omega)))
          have hl1 : (l.length : Int) - 1 ≤ l.length := by omega
          have hl2 : (1 : Int) ≤ l.length := by omega
          have hl3 : ((l.length : Int) - 1).toNat = l.length - 1 := by omega
          clear hb4 D1 HD1 HD4
          go_wp2_with fail
          refine (HD2.out _).mono ?_
          rintro e w5 ⟨hb5, z, g, p5, c5, rfl, HD5, HR5⟩
          obtain ⟨rfl, rfl⟩ : z = .none ∧ g = 40 := by have := D2.out; rw [HD5.out] at this; cases this; exact ⟨rfl, rfl⟩
          have hB5 := HB4.out.trans (hb5.mono HB4.out.size)
          have HB5 := Lib.hid (hB5.alloc hB5.size (.cells #[.bool false, .string ⟨#[]⟩, .slice p5 0 c5] 36))
          clear hB5
          clear hb5 D2 HD2 HD5 hl3
          go_wp2
          go_ret
          exact ⟨rfl, HB5.out⟩
        · have g1 : ¬ ((l.length : Int) + t.length ≤ 65536) := by omega
          go_wp2
          go_ret
          exact ⟨rfl, HB3.out⟩
    · have n1 := bool_ne hn
      go_wp2
      go_ret
      exact ⟨rfl, HB3.out⟩
end Go.Proofs.YtjccllfgendpdaaDoor
