/- Contracts of Encode, the program's and the reference's. -/
import Derived.Test.YtjccllfgendpdaaDoorItmI
namespace Go.Proofs.YtjccllfgendpdaaDoor
open Go.RowKit Go.Shelf Go.Lib

/-- what Encode gives -/
def encodeV (x : Item) : Value := .tuple #[.string ⟨(encode x).1.toArray⟩, .int .i64 (encode x).2]
theorem encodeV_deep {x : Item} (h : deep x 12 = true) : encodeV x = .tuple #[.string ⟨#[]⟩, .int .i64 41] := by unfold encodeV encode; rw [if_pos h]
theorem encodeV_wrong {x : Item} (h : deep x 12 = false) (h2 : wrong x = true) : encodeV x = .tuple #[.string ⟨#[]⟩, .int .i64 2] := by unfold encodeV encode; rw [h, h2]; rfl
theorem encodeV_long {x : Item} (h : deep x 12 = false) (h2 : wrong x = false) (h3 : (put x).length > 65536) : encodeV x = .tuple #[.string ⟨#[]⟩, .int .i64 42] := by unfold encodeV encode; rw [h, h2, if_neg (by simp), if_neg (by simp), if_pos h3]
theorem encodeV_good {x : Item} (h : deep x 12 = false) (h2 : wrong x = false) (h3 : ¬ (put x).length > 65536) : encodeV x = .tuple #[.string ⟨(put x).toArray⟩, .int .i64 0] := by unfold encodeV encode; rw [h, h2, if_neg (by simp), if_neg (by simp), if_neg h3]

set_option maxRecDepth 100000 in
set_option maxHeartbeats 1600000 in
theorem encode_any (x : Item) (v : Value) (w : World) (hx : x.size ≤ 1099511627776) (hp : (put x).length ≤ 1099511627776) (hr : Reads w w.heap.size v x.list) :
    Calls Tryd.prog 32 #[.agg #[.bool x.isList, .string ⟨x.text.toArray⟩, v]] w fun e w' => e = .returned (encodeV x) ∧ Below w.heap.size w w' := by
  obtain ⟨p, c, rfl⟩ := hr.form
  have hd := Lib.hid (deep_any 1099511627776 (by omega) x 12 (.slice p x.list.length c) (w.alloc (.cells #[.bool x.isList, .string ⟨x.text.toArray⟩, .slice p x.list.length c] 36)) hx (by omega) (hr.below (laid1 _ _) (by rw [laid1_size]; omega)))
  have Hr := Lib.hid hr
  clear hr
  cases hq : deep x 12 with
  | true =>
    rw [encodeV_deep hq]
    rw [hq] at hd
    go_enter Tryd.func32, Tryd.ntmps32
    go_wp2_with fail
    refine hd.out.mono ?_
    rintro e w1 ⟨rfl, hb1⟩
    have hR := (laid1 w _).trans (hb1.mono (by rw [laid1_size]; omega))
    clear hb1
    go_wp2
    go_ret2
    exact ⟨rfl, hR⟩
  | false =>
    rw [hq] at hd
    have hc0 : ∀ i u, (#[.bool x.isList, .string ⟨x.text.toArray⟩, .slice p x.list.length c] : Array Value)[i]? = some u → ∀ w1, Below (w.alloc (.cells #[.bool x.isList, .string ⟨x.text.toArray⟩, .slice p x.list.length c] 36)).heap.size (w.alloc (.cells #[.bool x.isList, .string ⟨x.text.toArray⟩, .slice p x.list.length c] 36)) w1 → w1.cell? ⟨w.heap.size, i, none⟩ = some u := fun i u hu w1 hb => by
      rw [hb.cell (p := ⟨w.heap.size, i, none⟩) (by rw [laid1_size]; exact Nat.lt_succ_self _), World.cell?_alloc_new]
      exact hu
    have Hc := Lib.hid hc0
    clear hc0
    cases hq2 : wrong x with
    | true =>
      rw [encodeV_wrong hq hq2]
      go_enter Tryd.func32, Tryd.ntmps32
      go_wp2_with fail
      refine hd.out.mono ?_
      rintro e w1 ⟨rfl, hb1⟩
      have c0 := Hc.out 0 _ rfl w1 hb1
      have c1 := Hc.out 1 _ rfl w1 hb1
      have c2 := Hc.out 2 _ rfl w1 hb1
      have hR := (laid1 w _).trans (hb1.mono (by rw [laid1_size]; omega))
      clear hb1
      have HR := Lib.hid hR
      clear hR
      go_wp2_with fail
      refine (wrong_any 1099511627776 (by omega) x _ w1 hx (Hr.out.below HR.out HR.out.size)).mono ?_
      rintro e w2 ⟨rfl, hb2⟩
      have hR2 := HR.out.trans (hb2.mono HR.out.size)
      rw [hq2]
      clear hb2
      go_wp2
      go_ret2
      exact ⟨rfl, hR2⟩
    | false =>
      have hcase : ((put x).length > 65536 ∧ encodeV x = .tuple #[.string ⟨#[]⟩, .int .i64 42]) ∨ (¬ (put x).length > 65536 ∧ encodeV x = .tuple #[.string ⟨(put x).toArray⟩, .int .i64 0]) := by
        by_cases h : (put x).length > 65536
        · exact .inl ⟨h, encodeV_long hq hq2 h⟩
        · exact .inr ⟨h, encodeV_good hq hq2 h⟩
      obtain ⟨L, hL⟩ : ∃ L, put x = L := ⟨_, rfl⟩
      rw [hL] at hcase
      have HL := Lib.hid hL
      have Hp := Lib.hid hp
      clear hL hp
      rcases hcase with ⟨hl, he⟩ | ⟨hl, he⟩
      all_goals
        rw [he]
        clear he
        first
          | have hl1 : (65536 : Int) < L.length := by omega
          | have hl1 : ¬ (65536 : Int) < L.length := by omega
        go_enter Tryd.func32, Tryd.ntmps32
        go_wp2_with fail
        refine hd.out.mono ?_
        rintro e w1 ⟨rfl, hb1⟩
        have c0 := Hc.out 0 _ rfl w1 hb1
        have c1 := Hc.out 1 _ rfl w1 hb1
        have c2 := Hc.out 2 _ rfl w1 hb1
        have hR := (laid1 w _).trans (hb1.mono (by rw [laid1_size]; omega))
        have HB1 := Lib.hid hb1
        clear hb1
        have HR := Lib.hid hR
        clear hR
        go_wp2_with fail
        refine (wrong_any 1099511627776 (by omega) x _ w1 hx (Hr.out.below HR.out HR.out.size)).mono ?_
        rintro e w2 ⟨rfl, hb2⟩
        have hR2 := HR.out.trans (hb2.mono HR.out.size)
        have hb3 := HB1.out.trans (hb2.mono HB1.out.size)
        rw [hq2]
        have d0 := Hc.out 0 _ rfl w2 hb3
        have d1 := Hc.out 1 _ rfl w2 hb3
        have d2 := Hc.out 2 _ rfl w2 hb3
        clear hb2 hb3 c0 c1 c2
        have HR2 := Lib.hid hR2
        clear hR2
        go_wp2_with fail
        refine (put_any 1099511627776 (by omega) x _ w2 hx Hp.out (Hr.out.below HR2.out HR2.out.size)).mono ?_
        rintro e w3 ⟨rfl, hb4⟩
        rw [HL.out]
        have hR3 := HR2.out.trans (hb4.mono HR2.out.size)
        clear hb4
        go_wp2
        go_ret2
        exact ⟨rfl, hR3⟩

set_option maxRecDepth 100000 in
set_option maxHeartbeats 1600000 in
theorem encodeRef_any (x : Item) (v : Value) (w : World) (hx : x.size ≤ 1099511627776) (hp : (put x).length ≤ 1099511627776) (hr : Reads w w.heap.size v x.list) :
    Calls Tryd.prog 33 #[.agg #[.bool x.isList, .string ⟨x.text.toArray⟩, v]] w fun e w' => e = .returned (encodeV x) ∧ Below w.heap.size w w' := by
  obtain ⟨p, c, rfl⟩ := hr.form
  have hd := Lib.hid (deepRef_any 1099511627776 (by omega) x 12 (.slice p x.list.length c) (w.alloc (.cells #[.bool x.isList, .string ⟨x.text.toArray⟩, .slice p x.list.length c] 36)) hx (by omega) (hr.below (laid1 _ _) (by rw [laid1_size]; omega)))
  have Hr := Lib.hid hr
  clear hr
  cases hq : deep x 12 with
  | true =>
    rw [encodeV_deep hq]
    rw [hq] at hd
    go_enter Tryd.func33, Tryd.ntmps33
    go_wp2_with fail
    refine hd.out.mono ?_
    rintro e w1 ⟨rfl, hb1⟩
    have hR := (laid1 w _).trans (hb1.mono (by rw [laid1_size]; omega))
    clear hb1
    go_wp2
    go_ret2
    exact ⟨rfl, hR⟩
  | false =>
    rw [hq] at hd
    have hc0 : ∀ i u, (#[.bool x.isList, .string ⟨x.text.toArray⟩, .slice p x.list.length c] : Array Value)[i]? = some u → ∀ w1, Below (w.alloc (.cells #[.bool x.isList, .string ⟨x.text.toArray⟩, .slice p x.list.length c] 36)).heap.size (w.alloc (.cells #[.bool x.isList, .string ⟨x.text.toArray⟩, .slice p x.list.length c] 36)) w1 → w1.cell? ⟨w.heap.size, i, none⟩ = some u := fun i u hu w1 hb => by
      rw [hb.cell (p := ⟨w.heap.size, i, none⟩) (by rw [laid1_size]; exact Nat.lt_succ_self _), World.cell?_alloc_new]
      exact hu
    have Hc := Lib.hid hc0
    clear hc0
    cases hq2 : wrong x with
    | true =>
      rw [encodeV_wrong hq hq2]
      go_enter Tryd.func33, Tryd.ntmps33
      go_wp2_with fail
      refine hd.out.mono ?_
      rintro e w1 ⟨rfl, hb1⟩
      have c0 := Hc.out 0 _ rfl w1 hb1
      have c1 := Hc.out 1 _ rfl w1 hb1
      have c2 := Hc.out 2 _ rfl w1 hb1
      have hR := (laid1 w _).trans (hb1.mono (by rw [laid1_size]; omega))
      clear hb1
      have HR := Lib.hid hR
      clear hR
      go_wp2_with fail
      refine (right_any 1099511627776 (by omega) x _ w1 hx (Hr.out.below HR.out HR.out.size)).mono ?_
      rintro e w2 ⟨rfl, hb2⟩
      have hR2 := HR.out.trans (hb2.mono HR.out.size)
      rw [hq2]
      clear hb2
      go_wp2
      go_ret2
      exact ⟨rfl, hR2⟩
    | false =>
      have hcase : ((put x).length > 65536 ∧ encodeV x = .tuple #[.string ⟨#[]⟩, .int .i64 42]) ∨ (¬ (put x).length > 65536 ∧ encodeV x = .tuple #[.string ⟨(put x).toArray⟩, .int .i64 0]) := by
        by_cases h : (put x).length > 65536
        · exact .inl ⟨h, encodeV_long hq hq2 h⟩
        · exact .inr ⟨h, encodeV_good hq hq2 h⟩
      obtain ⟨L, hL⟩ : ∃ L, put x = L := ⟨_, rfl⟩
      rw [hL] at hcase
      have HL := Lib.hid hL
      have Hp := Lib.hid hp
      clear hL hp
      rcases hcase with ⟨hl, he⟩ | ⟨hl, he⟩
      all_goals
        rw [he]
        clear he
        first
          | have hl1 : (65536 : Int) < L.length := by omega
          | have hl1 : ¬ (65536 : Int) < L.length := by omega
        go_enter Tryd.func33, Tryd.ntmps33
        go_wp2_with fail
        refine hd.out.mono ?_
        rintro e w1 ⟨rfl, hb1⟩
        have c0 := Hc.out 0 _ rfl w1 hb1
        have c1 := Hc.out 1 _ rfl w1 hb1
        have c2 := Hc.out 2 _ rfl w1 hb1
        have hR := (laid1 w _).trans (hb1.mono (by rw [laid1_size]; omega))
        have HB1 := Lib.hid hb1
        clear hb1
        have HR := Lib.hid hR
        clear hR
        go_wp2_with fail
        refine (right_any 1099511627776 (by omega) x _ w1 hx (Hr.out.below HR.out HR.out.size)).mono ?_
        rintro e w2 ⟨rfl, hb2⟩
        have hR2 := HR.out.trans (hb2.mono HR.out.size)
        have hb3 := HB1.out.trans (hb2.mono HB1.out.size)
        rw [hq2]
        have d0 := Hc.out 0 _ rfl w2 hb3
        have d1 := Hc.out 1 _ rfl w2 hb3
        have d2 := Hc.out 2 _ rfl w2 hb3
        clear hb2 hb3 c0 c1 c2
        have HR2 := Lib.hid hR2
        clear hR2
        go_wp2_with fail
        refine (bytesOf_any 1099511627776 (by omega) x _ w2 hx Hp.out (Hr.out.below HR2.out HR2.out.size)).mono ?_
        rintro e w3 ⟨rfl, hb4⟩
        rw [HL.out]
        have hR3 := HR2.out.trans (hb4.mono HR2.out.size)
        clear hb4
        go_wp2
        go_ret2
        exact ⟨rfl, hR3⟩
end Go.Proofs.YtjccllfgendpdaaDoor
