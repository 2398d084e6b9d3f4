/- What the walks take: ItmJ, CutB, ItmRow, TakA. -/
import Derived.Test.YthicdhnjincflaaGreatDoorU0
import Derived.Test.YthicdhnjincflaaGreatDoorU8
import Derived.Deep.RegionHeld3
import Derived.BigQuiet
namespace Go.Proofs.YthicdhnjincflaaGreatDoor
open Go.RowKit Go.Shelf Go.Lib
theorem held_next {w0 wx w' : World} {a : Addr} {v : Value} (h : wx.cell? a = some v ∧ Below w0.heap.size w0 wx) (hb : Below wx.heap.size wx w') : w'.cell? a = some v ∧ Below w0.heap.size w0 w' :=
  ⟨(hb.cell (World.block_lt_of_cell? _ _ h.1)).trans h.1, h.2.trans (hb.mono h.2.size)⟩
theorem held_drew {w0 wx : World} {a : Addr} {v : Value} (h : wx.cell? a = some v ∧ Below w0.heap.size w0 wx) : wx.drew.cell? a = some v ∧ Below w0.heap.size w0 wx.drew := ⟨h.1, h.2.drew⟩
theorem app_mk' (l r : List UInt8) : (⟨l.toArray⟩ ++ ⟨r.toArray⟩ : ByteArray) = ⟨(l ++ r).toArray⟩ := app_mk l r
set_option maxRecDepth 100000 in
set_option maxHeartbeats 3200000 in
theorem bytesText (x : Item) (p : Option Addr) (c : Nat) (w : World) (hb : x.isList = false) (hp : (put x).length ≤ 1099511627776) :
    Calls Tryz.prog 67 #[.agg #[.bool x.isList, .string ⟨x.text.toArray⟩, .slice p x.list.length c]] w fun e w' => e = .returned (.string ⟨(put x).toArray⟩) ∧ Below w.heap.size w w' := by
  rw [put_text hb] at hp ⊢
  obtain ⟨t, ht⟩ : ∃ t, x.text = t := ⟨_, rfl⟩
  rw [ht] at hp ⊢
  rw [hb]
  by_cases h1 : t.length = 1
  · match t, h1 with
    | [b], _ =>
      by_cases h2 : b.toNat < 128
      · have e : putText [b] = [b] := by simp [putText, h2]
        rw [e]
        have h3 : (b.toNat : Int) < 128 := by omega
        have hgi : (⟨#[b]⟩ : ByteArray)[0]'(Nat.zero_lt_one) = b := rfl
        clear e hp
        go_enter Tryz.func67, Tryz.ntmps67
        go_wp2
        go_ret
        exact ⟨rfl, laid1 _ _⟩
      · have e : putText [b] = framed [b] 128 := by simp [putText, h2]
        rw [e] at hp ⊢
        have h3 : ¬ (b.toNat : Int) < 128 := by omega
        have hgi : (⟨#[b]⟩ : ByteArray)[0]'(Nat.zero_lt_one) = b := rfl
        clear e
        go_enter Tryz.func67, Tryz.ntmps67
        go_wp2_with fail
        have hS : (w.alloc (.cells #[.bool false, .string ⟨#[b]⟩, .slice p x.list.length c] 46)).cell? ⟨w.heap.size, 1, none⟩ = some (.string ⟨#[b]⟩) ∧ Below w.heap.size w (w.alloc (.cells #[.bool false, .string ⟨#[b]⟩, .slice p x.list.length c] 46)) := ⟨by simp, laid1 _ _⟩
        go_region_held3 (fun w' => w'.cell? ⟨w.heap.size, 1, none⟩ = some (.string ⟨#[b]⟩) ∧ Below w.heap.size w w') (first | exact hS | exact held_drew hS | exact held_next (held_drew hS) hb')
          (first | (go_at_call 96; refine (head_any [b] 128 _ (by simp) (by omega)).mono ?_; rintro e w' ⟨⟨h, rfl, HH⟩, hb'⟩; have hl2 : ¬ 9223372036854775807 < h.length + 1 := (by have := HH.out.2; omega)))
        rename_i hHeld
        have hR := hHeld.2
        clear hHeld hb' hS
        go_wp2
        go_ret
        refine ⟨?_, hR⟩
        rw [← HH.out.1, app_mk']; rfl
  · have e : putText t = framed t 128 := by simp [putText, h1]
    rw [e] at hp ⊢
    have h3 : ¬ (t.length : Int) = 1 := by omega
    clear e
    go_enter Tryz.func67, Tryz.ntmps67
    go_wp2_with fail
    have hS : (w.alloc (.cells #[.bool false, .string ⟨t.toArray⟩, .slice p x.list.length c] 46)).cell? ⟨w.heap.size, 1, none⟩ = some (.string ⟨t.toArray⟩) ∧ Below w.heap.size w (w.alloc (.cells #[.bool false, .string ⟨t.toArray⟩, .slice p x.list.length c] 46)) := ⟨by simp, laid1 _ _⟩
    have htl := framed_le t 128
    go_region_held3 (fun w' => w'.cell? ⟨w.heap.size, 1, none⟩ = some (.string ⟨t.toArray⟩) ∧ Below w.heap.size w w') (first | exact hS | exact held_drew hS | exact held_next (held_drew hS) hb')
      (first | (go_at_call 96; refine (head_any t 128 _ (by omega) (by omega)).mono ?_; rintro e w' ⟨⟨h, rfl, HH⟩, hb'⟩; have hl2 : ¬ 9223372036854775807 < h.length + t.length := (by have := HH.out.2; omega)))
    rename_i hHeld
    have hR := hHeld.2
    clear hHeld hb' hS
    go_wp2
    go_ret
    refine ⟨?_, hR⟩
    rw [← HH.out.1, app_mk']; rfl
set_option maxRecDepth 100000 in
set_option maxHeartbeats 3200000 in
theorem bytesOf_any (N : Nat) (hN : N ≤ 1099511627776) : ∀ (x : Item) (v : Value) (w : World), x.size ≤ N → (put x).length ≤ 1099511627776 → Reads w w.heap.size v x.list →
    Calls Tryz.prog 67 #[.agg #[.bool x.isList, .string ⟨x.text.toArray⟩, v]] w fun e w' => e = .returned (.string ⟨(put x).toArray⟩) ∧ Below w.heap.size w w' := by
  induction N with
  | zero => intro x v w hx; have := x.size_pos; omega
  | succ N ih =>
    intro x v w hx hp hr
    obtain ⟨p, c, rfl⟩ := hr.form
    cases hb : x.isList with
    | false =>
      have := bytesText x p c w hb hp
      rw [hb] at this
      exact this
    | true =>
      have ih' := Lib.hid (ih (by omega))
      have hlen : x.list.length ≤ 1099511627776 := by have := length_lt_size x; omega
      have HX := Lib.hid hx
      have Hr := Lib.hid hr
      clear ih hx hr
      rw [put_list hb] at hp ⊢
      have hpa := framed_le (putAll x.list) 192
      obtain ⟨n, hn⟩ : ∃ n, x.list.length = n := ⟨_, rfl⟩
      rw [hn] at Hr hlen ⊢
      have HN := Lib.hid hn
      have HP := Lib.hid (Nat.le_trans (Nat.le_of_lt hpa) hp)
      clear hn hp hpa
      go_enter Tryz.func67, Tryz.ntmps67
      go_wp2_with fail
      go_loopw [3, 4] (fun s i wr => ∃ k : Nat, k ≤ n ∧ i = .int .i64 k ∧ s = .string ⟨(putAll (x.list.take k)).toArray⟩ ∧ Aside (Below (w.heap.size + 1) (w.alloc (.cells #[.bool true, .string ⟨x.text.toArray⟩, .slice p n c] 46)) wr)) (fun _ i _ => n - (intOf i).toNat)
      case atStart => exact ⟨0, by omega, rfl, rfl, Below.refl _ _⟩
      case round =>
        obtain ⟨k, hk, rfl, rfl, BW⟩ := hrel
        have g1 : (0 : Int) ≤ k := by omega
        have hBW := (laid1 w _).trans (BW.out.mono (by omega))
        have HBW := Lib.hid hBW
        have hz := hBW.size
        have hc2 : wr.cell? ⟨w.heap.size, 2, none⟩ = some (.slice p n c) := (BW.out.cell (p := ⟨w.heap.size, 2, none⟩) (Nat.lt_succ_self _)).trans (by simp)
        clear hBW
        by_cases hlt : k < n
        · have hltz : (k : Int) < (n : Int) := by omega
          obtain ⟨y, hy⟩ : ∃ y, x.list[k]? = some y := ⟨x.list[k]'(by rw [HN.out]; exact hlt), by simp⟩
          obtain ⟨-, g0, o, rfl, hg0, hat⟩ := (Hr.out.below HBW.out hz).at (by omega)
          obtain ⟨h2, h3, v', h4, h5⟩ := hat k y hy
          have hsz := size_child hy
          have hpy := putAll_take hy
          have hple := putAll_take_le x.list (k + 1)
          rw [hpy, List.length_append] at hple
          have hpl : (put y).length ≤ 1099511627776 ∧ (putAll (x.list.take k)).length + (put y).length ≤ 1099511627776 := by have := HP.out; omega
          have hcall := ih'.out y v' wr (by have := HX.out; omega) hpl.1 h5
          have HPY := Lib.hid hpy
          have hl2 : ¬ 9223372036854775807 < (putAll (x.list.take k)).length + (put y).length := by omega
          obtain ⟨S, hS⟩ : ∃ S, putAll (x.list.take k) = S := ⟨_, rfl⟩
          rw [hS] at hl2
          have HS := Lib.hid hS
          rw [hS]
          clear hat h5 hple hpl hsz hpy hS
          go_wp2_with fail
          refine hcall.mono ?_
          clear hcall
          rintro e w' ⟨rfl, hb'⟩
          have hb2 := Lib.hid (BW.out.trans (hb'.mono (by have := BW.out.size; rw [laid1_size] at this; exact this)))
          clear hb'
          go_wp2
          refine ⟨⟨k + 1, by omega, by go_num, ?_, hb2.out⟩, by simp [intOf]; omega⟩
          rw [app_mk, HPY.out, HS.out]
        · have hltz : ¬ (k : Int) < (n : Int) := by omega
          have : k = n := by omega
          subst this
          have HT := Lib.hid (show x.list.take k = x.list from List.take_of_length_le (by rw [HN.out]; exact Nat.le_refl _))
          rw [HT.out]
          obtain ⟨S, hS⟩ : ∃ S, putAll x.list = S := ⟨_, rfl⟩
          have hSl := HP.out
          rw [hS] at hSl ⊢
          have HS := Lib.hid hS
          clear hS
          go_wp2_with fail
          refine (head_any S 192 wr hSl (by omega)).mono ?_
          rintro e w' ⟨⟨h, rfl, HH⟩, hb'⟩
          have hl2 : ¬ 9223372036854775807 < h.length + S.length := by have := HH.out.2; omega
          have hb2 := HBW.out.trans (hb'.mono hz)
          clear hb'
          go_wp2
          go_ret
          refine ⟨?_, hb2⟩
          rw [HS.out, ← HH.out.1, app_mk']; rfl
end Go.Proofs.YthicdhnjincflaaGreatDoor
/- Contracts of Encode, the program's and the reference's. -/
namespace Go.Proofs.YthicdhnjincflaaGreatDoor
open Go.RowKit Go.Shelf Go.Lib
def encodeV (x : Item) : Value := .tuple #[.string ⟨(encode x).1.toArray⟩, .int .i64 (encode x).2]
theorem encodeV_deep {x : Item} (h : deep x 12 = true) : encodeV x = .tuple #[.string ⟨#[]⟩, .int .i64 41] := by unfold encodeV encode; rw [if_pos h]
theorem encodeV_wrong {x : Item} (h : deep x 12 = false) (h2 : wrong x = true) : encodeV x = .tuple #[.string ⟨#[]⟩, .int .i64 2] := by unfold encodeV encode; rw [h, h2]; rfl
theorem encodeV_long {x : Item} (h : deep x 12 = false) (h2 : wrong x = false) (h3 : (put x).length > 65536) : encodeV x = .tuple #[.string ⟨#[]⟩, .int .i64 42] := by unfold encodeV encode; rw [h, h2, if_neg (by simp), if_neg (by simp), if_pos h3]
theorem encodeV_good {x : Item} (h : deep x 12 = false) (h2 : wrong x = false) (h3 : ¬ (put x).length > 65536) : encodeV x = .tuple #[.string ⟨(put x).toArray⟩, .int .i64 0] := by unfold encodeV encode; rw [h, h2, if_neg (by simp), if_neg (by simp), if_neg h3]
set_option maxRecDepth 100000 in
set_option maxHeartbeats 1600000 in
theorem encode_any (x : Item) (v : Value) (w : World) (hx : x.size ≤ 1099511627776) (hp : (put x).length ≤ 1099511627776) (hr : Reads w w.heap.size v x.list) :
    Calls Tryz.prog 61 #[.agg #[.bool x.isList, .string ⟨x.text.toArray⟩, v]] w fun e w' => e = .returned (encodeV x) ∧ Below w.heap.size w w' := by
  obtain ⟨p, c, rfl⟩ := hr.form
  have hd := Lib.hid (deep_any 1099511627776 (by omega) x 12 (.slice p x.list.length c) (w.alloc (.cells #[.bool x.isList, .string ⟨x.text.toArray⟩, .slice p x.list.length c] 46)) hx (by omega) (hr.below (laid1 _ _) (by rw [laid1_size]; omega)))
  have Hr := Lib.hid hr
  clear hr
  cases hq : deep x 12 with
  | true =>
    rw [encodeV_deep hq]
    rw [hq] at hd
    go_enter Tryz.func61, Tryz.ntmps61
    go_wp2_with fail
    refine hd.out.mono ?_
    rintro e w1 ⟨rfl, hb1⟩
    have hR := (laid1 w _).trans (hb1.mono (by rw [laid1_size]; omega))
    clear hb1
    go_wp2
    go_ret2
    exact ⟨rfl, hR⟩
  | false =>
    rw [hq] at hd
    have hc0 : ∀ i u, (#[.bool x.isList, .string ⟨x.text.toArray⟩, .slice p x.list.length c] : Array Value)[i]? = some u → ∀ w1, Below (w.alloc (.cells #[.bool x.isList, .string ⟨x.text.toArray⟩, .slice p x.list.length c] 46)).heap.size (w.alloc (.cells #[.bool x.isList, .string ⟨x.text.toArray⟩, .slice p x.list.length c] 46)) w1 → w1.cell? ⟨w.heap.size, i, none⟩ = some u := fun i u hu w1 hb => by
      rw [hb.cell (p := ⟨w.heap.size, i, none⟩) (by rw [laid1_size]; exact Nat.lt_succ_self _), World.cell?_alloc_new]
      exact hu
    have Hc := Lib.hid hc0
    clear hc0
    cases hq2 : wrong x with
    | true =>
      rw [encodeV_wrong hq hq2]
      go_enter Tryz.func61, Tryz.ntmps61
      go_wp2_with fail
      refine hd.out.mono ?_
      rintro e w1 ⟨rfl, hb1⟩
      have c0 := Hc.out 0 _ rfl w1 hb1
      have c1 := Hc.out 1 _ rfl w1 hb1
      have c2 := Hc.out 2 _ rfl w1 hb1
      have hR := (laid1 w _).trans (hb1.mono (by rw [laid1_size]; omega))
      clear hb1
      have HR := Lib.hid hR
      clear hR
      go_wp2_with fail
      refine (wrong_any 1099511627776 (by omega) x _ w1 hx (Hr.out.below HR.out HR.out.size)).mono ?_
      rintro e w2 ⟨rfl, hb2⟩
      have hR2 := HR.out.trans (hb2.mono HR.out.size)
      rw [hq2]
      clear hb2
      go_wp2
      go_ret2
      exact ⟨rfl, hR2⟩
    | false =>
      have hcase : ((put x).length > 65536 ∧ encodeV x = .tuple #[.string ⟨#[]⟩, .int .i64 42]) ∨ (¬ (put x).length > 65536 ∧ encodeV x = .tuple #[.string ⟨(put x).toArray⟩, .int .i64 0]) := by
        by_cases h : (put x).length > 65536
        · exact .inl ⟨h, encodeV_long hq hq2 h⟩
        · exact .inr ⟨h, encodeV_good hq hq2 h⟩
      obtain ⟨L, hL⟩ : ∃ L, put x = L := ⟨_, rfl⟩
      rw [hL] at hcase
      have HL := Lib.hid hL
      have Hp := Lib.hid hp
      clear hL hp
      rcases hcase with ⟨hl, he⟩ | ⟨hl, he⟩
      all_goals
        rw [he]
        clear he
        first
          | have hl1 : (65536 : Int) < L.length := by omega
          | have hl1 : ¬ (65536 : Int) < L.length := by omega
        go_enter Tryz.func61, Tryz.ntmps61
        go_wp2_with fail
        refine hd.out.mono ?_
        rintro e w1 ⟨rfl, hb1⟩
        have c0 := Hc.out 0 _ rfl w1 hb1
        have c1 := Hc.out 1 _ rfl w1 hb1
        have c2 := Hc.out 2 _ rfl w1 hb1
        have hR := (laid1 w _).trans (hb1.mono (by rw [laid1_size]; omega))
        have HB1 := Lib.hid hb1
        clear hb1
        have HR := Lib.hid hR
        clear hR
        go_wp2_with fail
        refine (wrong_any 1099511627776 (by omega) x _ w1 hx (Hr.out.below HR.out HR.out.size)).mono ?_
        rintro e w2 ⟨rfl, hb2⟩
        have hR2 := HR.out.trans (hb2.mono HR.out.size)
        have hb3 := HB1.out.trans (hb2.mono HB1.out.size)
        rw [hq2]
        have d0 := Hc.out 0 _ rfl w2 hb3
        have d1 := Hc.out 1 _ rfl w2 hb3
        have d2 := Hc.out 2 _ rfl w2 hb3
        clear hb2 hb3 c0 c1 c2
        have HR2 := Lib.hid hR2
        clear hR2
        go_wp2_with fail
        refine (put_any 1099511627776 (by omega) x _ w2 hx Hp.out (Hr.out.below HR2.out HR2.out.size)).mono ?_
        rintro e w3 ⟨rfl, hb4⟩
        rw [HL.out]
        have hR3 := HR2.out.trans (hb4.mono HR2.out.size)
        clear hb4
        go_wp2
        go_ret2
        exact ⟨rfl, hR3⟩
set_option maxRecDepth 100000 in
set_option maxHeartbeats 1600000 in
theorem encodeRef_any (x : Item) (v : Value) (w : World) (hx : x.size ≤ 1099511627776) (hp : (put x).length ≤ 1099511627776) (hr : Reads w w.heap.size v x.list) :
    Calls Tryz.prog 37 #[.agg #[.bool x.isList, .string ⟨x.text.toArray⟩, v]] w fun e w' => e = .returned (encodeV x) ∧ Below w.heap.size w w' := by
  obtain ⟨p, c, rfl⟩ := hr.form
  have hd := Lib.hid (deepRef_any 1099511627776 (by omega) x 12 (.slice p x.list.length c) (w.alloc (.cells #[.bool x.isList, .string ⟨x.text.toArray⟩, .slice p x.list.length c] 46)) hx (by omega) (hr.below (laid1 _ _) (by rw [laid1_size]; omega)))
  have Hr := Lib.hid hr
  clear hr
  cases hq : deep x 12 with
  | true =>
    rw [encodeV_deep hq]
    rw [hq] at hd
    go_enter Tryz.func37, Tryz.ntmps37
    go_wp2_with fail
    refine hd.out.mono ?_
    rintro e w1 ⟨rfl, hb1⟩
    have hR := (laid1 w _).trans (hb1.mono (by rw [laid1_size]; omega))
    clear hb1
    go_wp2
    go_ret2
    exact ⟨rfl, hR⟩
  | false =>
    rw [hq] at hd
    have hc0 : ∀ i u, (#[.bool x.isList, .string ⟨x.text.toArray⟩, .slice p x.list.length c] : Array Value)[i]? = some u → ∀ w1, Below (w.alloc (.cells #[.bool x.isList, .string ⟨x.text.toArray⟩, .slice p x.list.length c] 46)).heap.size (w.alloc (.cells #[.bool x.isList, .string ⟨x.text.toArray⟩, .slice p x.list.length c] 46)) w1 → w1.cell? ⟨w.heap.size, i, none⟩ = some u := fun i u hu w1 hb => by
      rw [hb.cell (p := ⟨w.heap.size, i, none⟩) (by rw [laid1_size]; exact Nat.lt_succ_self _), World.cell?_alloc_new]
      exact hu
    have Hc := Lib.hid hc0
    clear hc0
    cases hq2 : wrong x with
    | true =>
      rw [encodeV_wrong hq hq2]
      go_enter Tryz.func37, Tryz.ntmps37
      go_wp2_with fail
      refine hd.out.mono ?_
      rintro e w1 ⟨rfl, hb1⟩
      have c0 := Hc.out 0 _ rfl w1 hb1
      have c1 := Hc.out 1 _ rfl w1 hb1
      have c2 := Hc.out 2 _ rfl w1 hb1
      have hR := (laid1 w _).trans (hb1.mono (by rw [laid1_size]; omega))
      clear hb1
      have HR := Lib.hid hR
      clear hR
      go_wp2_with fail
      refine (right_any 1099511627776 (by omega) x _ w1 hx (Hr.out.below HR.out HR.out.size)).mono ?_
      rintro e w2 ⟨rfl, hb2⟩
      have hR2 := HR.out.trans (hb2.mono HR.out.size)
      rw [hq2]
      clear hb2
      go_wp2
      go_ret2
      exact ⟨rfl, hR2⟩
    | false =>
      have hcase : ((put x).length > 65536 ∧ encodeV x = .tuple #[.string ⟨#[]⟩, .int .i64 42]) ∨ (¬ (put x).length > 65536 ∧ encodeV x = .tuple #[.string ⟨(put x).toArray⟩, .int .i64 0]) := by
        by_cases h : (put x).length > 65536
        · exact .inl ⟨h, encodeV_long hq hq2 h⟩
        · exact .inr ⟨h, encodeV_good hq hq2 h⟩
      obtain ⟨L, hL⟩ : ∃ L, put x = L := ⟨_, rfl⟩
      rw [hL] at hcase
      have HL := Lib.hid hL
      have Hp := Lib.hid hp
      clear hL hp
      rcases hcase with ⟨hl, he⟩ | ⟨hl, he⟩
      all_goals
        rw [he]
        clear he
        first
          | have hl1 : (65536 : Int) < L.length := by omega
          | have hl1 : ¬ (65536 : Int) < L.length := by omega
        go_enter Tryz.func37, Tryz.ntmps37
        go_wp2_with fail
        refine hd.out.mono ?_
        rintro e w1 ⟨rfl, hb1⟩
        have c0 := Hc.out 0 _ rfl w1 hb1
        have c1 := Hc.out 1 _ rfl w1 hb1
        have c2 := Hc.out 2 _ rfl w1 hb1
        have hR := (laid1 w _).trans (hb1.mono (by rw [laid1_size]; omega))
        have HB1 := Lib.hid hb1
        clear hb1
        have HR := Lib.hid hR
        clear hR
        go_wp2_with fail
        refine (right_any 1099511627776 (by omega) x _ w1 hx (Hr.out.below HR.out HR.out.size)).mono ?_
        rintro e w2 ⟨rfl, hb2⟩
        have hR2 := HR.out.trans (hb2.mono HR.out.size)
        have hb3 := HB1.out.trans (hb2.mono HB1.out.size)
        rw [hq2]
        have d0 := Hc.out 0 _ rfl w2 hb3
        have d1 := Hc.out 1 _ rfl w2 hb3
        have d2 := Hc.out 2 _ rfl w2 hb3
        clear hb2 hb3 c0 c1 c2
        have HR2 := Lib.hid hR2
        clear hR2
        go_wp2_with fail
        refine (bytesOf_any 1099511627776 (by omega) x _ w2 hx Hp.out (Hr.out.below HR2.out HR2.out.size)).mono ?_
        rintro e w3 ⟨rfl, hb4⟩
        rw [HL.out]
        have hR3 := HR2.out.trans (hb4.mono HR2.out.size)
        clear hb4
        go_wp2
        go_ret2
        exact ⟨rfl, hR3⟩
end Go.Proofs.YthicdhnjincflaaGreatDoor

namespace Go.Proofs.YthicdhnjincflaaGreatDoor
open Go.RowKit Go.Shelf Go.Lib
theorem ext_mk (l : List UInt8) (a b : Nat) : (⟨l.toArray⟩ : ByteArray).extract a b = ⟨((l.take b).drop a).toArray⟩ := by
  apply ByteArray.ext
  apply Array.toList_inj.1
  rw [ByteArray.data_extract, Array.toList_extract, List.extract_eq_drop_take']
theorem results_tmp4 {fn : Func} {t u v x : Tmp} (h : fn.results = #[.tmp t, .tmp u, .tmp v, .tmp x]) (tmps : Array Value) (P : Program) (w : World) :
    (results fn tmps).run P w = .ok (.tuple #[tmps.getD t undef, tmps.getD u undef, tmps.getD v undef, tmps.getD x undef]) w := by
  simp [results, h]
def CutIs (l : List UInt8) (e : Ending) (w w' : World) : Prop :=
  ∃ (inn rest : List UInt8) (b ok : Bool), e = .returned (.tuple #[.string ⟨inn.toArray⟩, .bool b, .string ⟨rest.toArray⟩, .bool ok]) ∧ Hid (cut l = if ok then some (inn, b, rest) else Option.none) ∧ ∃ n, w' = w.drewN n
theorem cut_cons (c : UInt8) (r : List UInt8) : cut (c :: r) = if c.toNat < 128 then some ([c], false, r)
    else if (c.toNat - 128) % 64 > 55 then
      if (c.toNat - 128) % 64 - 55 > r.length then Option.none
      else if (value (r.take ((c.toNat - 128) % 64 - 55))).2 ≠ 0 ∨ (value (r.take ((c.toNat - 128) % 64 - 55))).1 < 56 then Option.none
      else if (value (r.take ((c.toNat - 128) % 64 - 55))).1 > (r.drop ((c.toNat - 128) % 64 - 55)).length then Option.none
      else some ((r.drop ((c.toNat - 128) % 64 - 55)).take (value (r.take ((c.toNat - 128) % 64 - 55))).1, decide (192 ≤ c.toNat), (r.drop ((c.toNat - 128) % 64 - 55)).drop (value (r.take ((c.toNat - 128) % 64 - 55))).1)
    else if (c.toNat - 128) % 64 > r.length then Option.none
    else if c.toNat < 192 ∧ (c.toNat - 128) % 64 = 1 ∧ (r.headD 0).toNat < 128 then Option.none
    else some (r.take ((c.toNat - 128) % 64), decide (192 ≤ c.toNat), r.drop ((c.toNat - 128) % 64)) := rfl
structure Txt (S : ByteArray) (c : UInt8) (r : List UInt8) : Prop where
  size : S.size = r.length + 1
  ne : S.toList.isEmpty = false
  at0 : ∀ h, S[0]'h = c
  one : S.extract 0 1 = ⟨#[c]⟩
  rest : S.extract 1 (r.length + 1) = ⟨r.toArray⟩
theorem txt (c : UInt8) (r : List UInt8) : Txt ⟨(c :: r).toArray⟩ c r := by
  have hsz : (⟨(c :: r).toArray⟩ : ByteArray).size = r.length + 1 := by rw [size_mk]; rfl
  refine ⟨hsz, ?_, fun _ => rfl, ?_, ?_⟩
  · cases h : (⟨(c :: r).toArray⟩ : ByteArray).toList.isEmpty with
    | false => rfl
    | true =>
      exfalso
      have h2 := List.isEmpty_iff.1 h
      rw [ByteArray.toList_eq] at h2
      simp at h2
  · rw [ext_mk]; rfl
  · rw [ext_mk]; simp
set_option maxRecDepth 100000 in
set_option maxHeartbeats 1600000 in
theorem cut_low (c : UInt8) (r : List UInt8) (S : ByteArray) (hS : Txt S c r) (w : World) (hlen : r.length ≤ 1099511627776) (hc : c.toNat < 128) :
    Calls Tryz.prog 121 #[.string S] w fun e w' => CutIs (c :: r) e w w' := by
  obtain ⟨hsz, hne, hat, e1, e2⟩ := hS
  have h0 : 0 < S.size := by omega
  have h1 : (c.toNat : Int) < 128 := by omega
  have H : Hid (cut (c :: r) = some ([c], false, r)) := Lib.hid (by rw [cut_cons, if_pos hc])
  clear hc
  go_enter Tryz.func121, Tryz.ntmps121
  go_wp2
  go_quiet (fail)
  go_wp2
  refine bodyPost_ret (results_tmp4 rfl _ _ _) rfl ?_
  exact ⟨[c], r, false, true, rfl, H, nq, rfl⟩
set_option maxRecDepth 100000 in
set_option maxHeartbeats 1600000 in
theorem cut_nil (w : World) : Calls Tryz.prog 121 #[.string ⟨#[]⟩] w fun e w' => CutIs [] e w w' := by
  go_enter Tryz.func121, Tryz.ntmps121
  go_wp2
  refine bodyPost_ret (results_tmp4 rfl _ _ _) rfl ?_
  exact ⟨[], [], false, false, rfl, Lib.hid rfl, 0, rfl⟩
theorem drewN_add (w : World) (a b : Nat) : (w.drewN a).drewN b = w.drewN (a + b) := by
  induction b generalizing w with
  | zero => rfl
  | succ b ih =>
    show ((w.drewN a).drewN b).drew = (w.drewN (a + b)).drew
    rw [ih]
theorem sub_form {c : UInt8} {k : Nat} (hc : ¬ c.toNat < 128) (h : (c.toNat - 128) % 64 = k) : ((c.toNat : Int) - 128) % 64 = (k : Int) := by omega
set_option maxRecDepth 100000 in
set_option maxHeartbeats 3200000 in
theorem cut_one (c b : UInt8) (r' : List UInt8) (S : ByteArray) (hS : Txt S c (b :: r')) (w : World) (hlen : r'.length + 1 ≤ 1099511627776) (hc : ¬ c.toNat < 128) (hke : (c.toNat - 128) % 64 = 1) (hls : ¬ 192 ≤ c.toNat) :
    Calls Tryz.prog 121 #[.string S] w fun e w' => CutIs (c :: b :: r') e w w' := by
  obtain ⟨hsz, hne, hat, e1, e2⟩ := hS
  have h0 : 0 < S.size := by omega
  have h1 : ¬ (c.toNat : Int) < 128 := by omega
  have h2 : (128 : Int) ≤ (c.toNat : Int) := by omega
  have h3 : ((c.toNat : Int) - 128) % 64 = 1 := sub_form hc hke
  have hcut : cut (c :: b :: r') = if b.toNat < 128 then Option.none else some ([b], false, r') := by
    rw [cut_cons, if_neg hc, hke, if_neg (by omega), if_neg (by simp)]
    simp only [List.headD_cons, true_and, decide_eq_false hls, List.take_succ_cons, List.take_zero, List.drop_succ_cons, List.drop_zero]
    by_cases hb : b.toNat < 128
    · rw [if_pos ⟨by omega, hb⟩, if_pos hb]
    · rw [if_neg (fun h => hb h.2), if_neg hb]
  have hd : decide ((192 : Int) ≤ (c.toNat : Int)) = false := by simp; omega
  have hR := txt b r'
  obtain ⟨R, hRe⟩ : ∃ R, (⟨(b :: r').toArray⟩ : ByteArray) = R := ⟨_, rfl⟩
  rw [hRe] at hR e2
  obtain ⟨rsz, rne, rat, e3, e4⟩ := hR
  have r0 : 0 < R.size := by omega
  have hgi : (⟨#[b]⟩ : ByteArray)[0]'(Nat.zero_lt_one) = b := rfl
  simp only [List.length_cons] at e2 hsz
  by_cases hb : b.toNat < 128
  · rw [if_pos hb] at hcut
    have hd2 : decide ((128 : Int) ≤ (b.toNat : Int)) = false := by simp; omega
    have H := Lib.hid hcut
    clear hcut hc hke hRe rne
    go_enter Tryz.func121, Tryz.ntmps121
    go_wp2
    go_quiet (fail)
    go_wp2
    go_quiet (fail)
    go_wp2
    refine bodyPost_ret (results_tmp4 rfl _ _ _) rfl ?_
    exact ⟨[b], r', false, false, rfl, H, _, drewN_add _ _ _⟩
  · rw [if_neg hb] at hcut
    have hd2 : decide ((128 : Int) ≤ (b.toNat : Int)) = true := by simp; omega
    have H := Lib.hid hcut
    clear hcut hc hke hRe rne
    go_enter Tryz.func121, Tryz.ntmps121
    go_wp2
    go_quiet (fail)
    go_wp2
    go_quiet (fail)
    go_wp2
    refine bodyPost_ret (results_tmp4 rfl _ _ _) rfl ?_
    exact ⟨[b], r', false, true, rfl, H, _, drewN_add _ _ _⟩
set_option maxRecDepth 100000 in
set_option maxHeartbeats 3200000 in
theorem cut_brief (c : UInt8) (r : List UInt8) (k : Nat) (S : ByteArray) (hS : Txt S c r) (w : World) (hlen : r.length ≤ 1099511627776) (hc : ¬ c.toNat < 128) (hke : (c.toNat - 128) % 64 = k) (hk : ¬ k > 55) :
    Calls Tryz.prog 121 #[.string S] w fun e w' => CutIs (c :: r) e w w' := by
  obtain ⟨hsz, hne, hat, e1, e2⟩ := hS
  have h0 : 0 < S.size := by omega
  have h1 : ¬ (c.toNat : Int) < 128 := by omega
  have h2 : (128 : Int) ≤ (c.toNat : Int) := by omega
  have h3 := sub_form hc hke
  have h4 : ¬ (55 : Int) < (k : Int) := by omega
  have hcut : cut (c :: r) = if k > r.length then Option.none else if c.toNat < 192 ∧ k = 1 ∧ (r.headD 0).toNat < 128 then Option.none else some (r.take k, decide (192 ≤ c.toNat), r.drop k) := by
    rw [cut_cons, if_neg hc, hke, if_neg hk]
  by_cases hl : k > r.length
  · rw [if_pos hl] at hcut
    have H := Lib.hid hcut
    have h5 : (r.length : Int) < (k : Int) := by omega
    clear hcut hc hke
    go_enter Tryz.func121, Tryz.ntmps121
    go_wp2
    refine bodyPost_ret (results_tmp4 rfl _ _ _) rfl ?_
    exact ⟨[], r, _, false, rfl, H, 0, rfl⟩
  · rw [if_neg hl] at hcut
    have h5 : ¬ (r.length : Int) < (k : Int) := by omega
    have e3 : (⟨r.toArray⟩ : ByteArray).extract 0 k = ⟨(r.take k).toArray⟩ := by rw [ext_mk]; rfl
    have e4 : (⟨r.toArray⟩ : ByteArray).extract k r.length = ⟨(r.drop k).toArray⟩ := by rw [ext_mk, List.take_length]
    have g1 : (0 : Int) ≤ k := by omega
    have g2 : (k : Int) ≤ r.length := by omega
    by_cases hls : 192 ≤ c.toNat
    · rw [if_neg (by omega)] at hcut
      have hd : decide ((192 : Int) ≤ (c.toNat : Int)) = true := by simp; omega
      have H := Lib.hid hcut
      clear hcut hc hke
      go_enter Tryz.func121, Tryz.ntmps121
      go_wp2
      go_quiet (fail)
      go_wp2
      go_quiet (fail)
      go_wp2
      refine bodyPost_ret (results_tmp4 rfl _ _ _) rfl ?_
      refine ⟨r.take k, r.drop k, true, true, rfl, ?_, _, drewN_add _ _ _⟩
      have := H.out
      rw [decide_eq_true hls] at this
      exact Lib.hid this
    · have hd : decide ((192 : Int) ≤ (c.toNat : Int)) = false := by simp; omega
      rw [decide_eq_false hls] at hcut
      by_cases hk1 : k = 1
      · subst hk1
        cases r with
        | nil => exact absurd (by simp : 1 > ([] : List UInt8).length) hl
        | cons b r' => exact cut_one c b r' S ⟨hsz, hne, hat, e1, e2⟩ w hlen hc hke hls
      · rw [if_neg (by intro h; exact hk1 h.2.1)] at hcut
        have hd2 : ((k : Int) != 1) = true := by simp; omega
        have H := Lib.hid hcut
        clear hcut hc hke
        go_enter Tryz.func121, Tryz.ntmps121
        go_wp2
        go_quiet (fail)
        go_wp2
        go_quiet (fail)
        go_wp2
        refine bodyPost_ret (results_tmp4 rfl _ _ _) rfl ?_
        exact ⟨r.take k, r.drop k, false, true, rfl, H, _, drewN_add _ _ _⟩
end Go.Proofs.YthicdhnjincflaaGreatDoor
/- Contract of cut: the case of a long head; all cases. -/
namespace Go.Proofs.YthicdhnjincflaaGreatDoor
open Go.RowKit Go.Shelf Go.Lib
set_option maxRecDepth 100000 in
set_option maxHeartbeats 3200000 in
theorem cut_far (c : UInt8) (r : List UInt8) (K k : Nat) (S : ByteArray) (hS : Txt S c r) (w : World) (hlen : r.length ≤ 1099511627776) (hc : ¬ c.toNat < 128) (hKe : (c.toNat - 128) % 64 = K) (hK : K > 55) (hk : K - 55 = k) :
    Calls Tryz.prog 121 #[.string S] w fun e w' => CutIs (c :: r) e w w' := by
  obtain ⟨hsz, hne, hat, e1, e2⟩ := hS
  have h0 : 0 < S.size := by omega
  have h1 : ¬ (c.toNat : Int) < 128 := by omega
  have h2 : (128 : Int) ≤ (c.toNat : Int) := by omega
  have h3 := sub_form hc hKe
  have h4 : (55 : Int) < (K : Int) := by omega
  have h6 : (K : Int) - 55 = (k : Int) := by omega
  have hcut : cut (c :: r) = if k > r.length then Option.none
      else if (value (r.take k)).2 ≠ 0 ∨ (value (r.take k)).1 < 56 then Option.none
      else if (value (r.take k)).1 > (r.drop k).length then Option.none
      else some ((r.drop k).take (value (r.take k)).1, decide (192 ≤ c.toNat), (r.drop k).drop (value (r.take k)).1) := by
    rw [cut_cons, if_neg hc, hKe, if_pos hK, hk]
  by_cases hl : k > r.length
  · rw [if_pos hl] at hcut
    have H := Lib.hid hcut
    have h5 : (r.length : Int) < (k : Int) := by omega
    clear hcut hc hKe hK hk
    go_enter Tryz.func121, Tryz.ntmps121
    go_wp2
    refine bodyPost_ret (results_tmp4 rfl _ _ _) rfl ?_
    exact ⟨[], r, _, false, rfl, H, 0, rfl⟩
  · rw [if_neg hl] at hcut
    have h5 : ¬ (r.length : Int) < (k : Int) := by omega
    have e3 : (⟨r.toArray⟩ : ByteArray).extract 0 k = ⟨(r.take k).toArray⟩ := by rw [ext_mk]; rfl
    have e4 : (⟨r.toArray⟩ : ByteArray).extract k r.length = ⟨(r.drop k).toArray⟩ := by rw [ext_mk, List.take_length]
    have g1 : (0 : Int) ≤ k := by omega
    have g2 : (k : Int) ≤ r.length := by omega
    have hval := fun wx => value_any ⟨(r.take k).toArray⟩ wx
    have hvV : valueV (⟨(r.take k).toArray⟩ : ByteArray).data.toList = .tuple #[.int .u64 ((value (r.take k)).1 : Int), .int .i64 (value (r.take k)).2] := rfl
    rw [hvV] at hval
    have hv64 : (value (r.take k)).1 < 18446744073709551616 := by
      unfold value
      split
      · simp
      · rename_i h
        exact val_lt64 (by omega)
    obtain ⟨v, er, hv⟩ : ∃ v er, value (r.take k) = (v, er) := ⟨_, _, rfl⟩
    rw [hv] at hcut hval hv64
    simp only at hcut hval hv64
    have Hval := Lib.hid hval
    clear hval hvV hv
    by_cases hbad : er ≠ 0 ∨ v < 56
    · rw [if_pos hbad] at hcut
      have H := Lib.hid hcut
      clear hcut hc hKe hK hk
      by_cases her : er = 0
      · subst her
        have h7 : (v : Int) < 56 := by have := hbad.resolve_left (by simp); omega
        clear hbad
        go_enter Tryz.func121, Tryz.ntmps121
        go_wp2_with fail
        refine (Hval.out _).mono ?_
        rintro e w1 ⟨rfl, rfl⟩
        go_wp2
        refine bodyPost_ret (results_tmp4 rfl _ _ _) rfl ?_
        exact ⟨[], r, _, false, rfl, H, 0, rfl⟩
      · clear hbad
        go_enter Tryz.func121, Tryz.ntmps121
        go_wp2_with fail
        refine (Hval.out _).mono ?_
        rintro e w1 ⟨rfl, rfl⟩
        go_wp2
        refine bodyPost_ret (results_tmp4 rfl _ _ _) rfl ?_
        exact ⟨[], r, _, false, rfl, H, 0, rfl⟩
    · rw [if_neg hbad] at hcut
      obtain rfl : er = 0 := by
        by_cases h : er = 0
        · exact h
        · exact absurd (.inl h) hbad
      have h7 : ¬ (v : Int) < 56 := by have : ¬ v < 56 := fun h => hbad (.inr h); omega
      clear hbad
      obtain ⟨T, hT⟩ : ∃ T, r.drop k = T := ⟨_, rfl⟩
      have hTl : T.length ≤ 1099511627776 := by rw [← hT, List.length_drop]; omega
      rw [hT] at hcut e4
      clear hT
      by_cases hn : v > T.length
      · rw [if_pos hn] at hcut
        have h8 : (T.length : Int) < (v : Int) := by omega
        have H := Lib.hid hcut
        clear hcut hc hKe hK hk
        go_enter Tryz.func121, Tryz.ntmps121
        go_wp2_with fail
        refine (Hval.out _).mono ?_
        rintro e w1 ⟨rfl, rfl⟩
        go_wp2
        go_quiet (fail)
        go_wp2
        refine bodyPost_ret (results_tmp4 rfl _ _ _) rfl ?_
        exact ⟨[], T, _, false, rfl, H, _, rfl⟩
      · rw [if_neg hn] at hcut
        have h8 : ¬ (T.length : Int) < (v : Int) := by omega
        have e5 : (⟨T.toArray⟩ : ByteArray).extract 0 v = ⟨(T.take v).toArray⟩ := by rw [ext_mk]; rfl
        have e6 : (⟨T.toArray⟩ : ByteArray).extract v T.length = ⟨(T.drop v).toArray⟩ := by rw [ext_mk, List.take_length]
        have g3 : (0 : Int) ≤ v := by omega
        have g4 : (v : Int) ≤ T.length := by omega
        have g5 : ((v : Int) != 1) = true := by simp; omega
        rcases (by omega : 192 ≤ c.toNat ∨ ¬ 192 ≤ c.toNat) with hls | hls
        · rw [decide_eq_true hls] at hcut
          have hd : decide ((192 : Int) ≤ (c.toNat : Int)) = true := by simp; omega
          have H := Lib.hid hcut
          clear hcut hc hKe hK hk
          go_enter Tryz.func121, Tryz.ntmps121
          go_wp2_with fail
          refine (Hval.out _).mono ?_
          rintro e w1 ⟨rfl, rfl⟩
          go_wp2
          go_quiet (fail)
          go_wp2
          go_quiet (fail)
          go_wp2
          go_quiet (fail)
          go_wp2
          refine bodyPost_ret (results_tmp4 rfl _ _ _) rfl ?_
          exact ⟨_, _, true, true, rfl, H, _, by rw [drewN_add, drewN_add]⟩
        · rw [decide_eq_false hls] at hcut
          have hd : decide ((192 : Int) ≤ (c.toNat : Int)) = false := by simp; omega
          have H := Lib.hid hcut
          clear hcut hc hKe hK hk
          go_enter Tryz.func121, Tryz.ntmps121
          go_wp2_with fail
          refine (Hval.out _).mono ?_
          rintro e w1 ⟨rfl, rfl⟩
          go_wp2
          go_quiet (fail)
          go_wp2
          go_quiet (fail)
          go_wp2
          go_quiet (fail)
          go_wp2
          refine bodyPost_ret (results_tmp4 rfl _ _ _) rfl ?_
          exact ⟨_, _, false, true, rfl, H, _, by rw [drewN_add, drewN_add]⟩
theorem cut_any (l : List UInt8) (w : World) (hlen : l.length ≤ 1099511627776) : Calls Tryz.prog 121 #[.string ⟨l.toArray⟩] w fun e w' => CutIs l e w w' := by
  cases l with
  | nil => exact cut_nil w
  | cons c r =>
    have hS := txt c r
    have hr : r.length ≤ 1099511627776 := by simp only [List.length_cons] at hlen; omega
    by_cases h1 : c.toNat < 128
    · exact cut_low c r _ hS w hr h1
    · by_cases h2 : (c.toNat - 128) % 64 > 55
      · exact cut_far c r _ _ _ hS w hr h1 rfl h2 rfl
      · exact cut_brief c r _ _ hS w hr h1 rfl h2
end Go.Proofs.YthicdhnjincflaaGreatDoor

namespace Go.Proofs.YthicdhnjincflaaGreatDoor
open Go.RowKit Go.Shelf Go.Lib
def itemCells (l : List (Item × Value)) : List Value := l.flatMap fun q => [.bool q.1.isList, .string ⟨q.1.text.toArray⟩, q.2]
theorem itemCells_length (l : List (Item × Value)) : (itemCells l).length = l.length * 3 := by
  induction l with
  | nil => rfl
  | cons q r ih =>
    unfold itemCells at ih ⊢
    rw [List.flatMap_cons, List.length_append, ih]
    simp; omega
theorem itemCells_append (l r : List (Item × Value)) : itemCells (l ++ r) = itemCells l ++ itemCells r := by simp [itemCells]
theorem itemCells_at (l : List (Item × Value)) (i j : Nat) (q : Item × Value) (h : l[i]? = some q) (hj : j < 3) : (itemCells l)[i * 3 + j]? = [Value.bool q.1.isList, .string ⟨q.1.text.toArray⟩, q.2][j]? := by
  induction l generalizing i with
  | nil => simp at h
  | cons p r ih =>
    have e : itemCells (p :: r) = [Value.bool p.1.isList, .string ⟨p.1.text.toArray⟩, p.2] ++ itemCells r := rfl
    rw [e]
    cases i with
    | zero =>
      simp at h; subst h
      rw [List.getElem?_append_left (by simp; omega)]
      simp
    | succ i =>
      rw [List.getElem?_append_right (by simp; omega)]
      have := ih i (by simpa using h)
      rw [← this]
      congr 1
      simp; omega
def OwnI (base : Nat) (w : World) (v : Value) (l : List (Item × Value)) : Prop := w.ownsRow base 46 3 v l.length (itemCells l)
theorem OwnI.nil (base : Nat) (w : World) : OwnI base w (.slice none 0 0) [] := World.ownsRow_nil _ _ _ _
theorem OwnI.reads {base : Nat} {w : World} {v : Value} {l : List (Item × Value)} (h : OwnI base w v l) (hr : ∀ (i : Nat) (q : Item × Value), l[i]? = some q → Reads w w.heap.size q.2 q.1.list) : Reads w w.heap.size v (l.map Prod.fst) := by
  have h' := h
  obtain ⟨_, ⟨rfl, hn⟩ | ⟨g, cap, cur, rfl, hb, hg, hcap, _⟩⟩ := h
  · obtain rfl : l = [] := List.length_eq_zero_iff.1 hn
    exact Reads.nil _ _
  · have hm : (l.map Prod.fst).length = l.length := by simp
    rw [← hm]
    refine Reads.mk (Array.getElem?_eq_some_iff.1 hg).1 (fun i x hx => ?_) (by rw [hm]; exact hcap)
    rw [List.getElem?_map] at hx
    cases hq : l[i]? with
    | none => rw [hq] at hx; cases hx
    | some q =>
      rw [hq] at hx
      cases hx
      have hi := (List.getElem?_eq_some_iff.1 hq).1
      have hc := fun j (hj : j < 3) => World.ownsRow.cellAt h' (i * 3 + j) (by omega)
      refine ⟨?_, ?_, q.2, ?_, hr i q hq⟩
      · have := hc 0 (by omega); rw [itemCells_at l i 0 q hq (by omega)] at this; simpa using this
      · have := hc 1 (by omega); rw [itemCells_at l i 1 q hq (by omega)] at this; simpa using this
      · have := hc 2 (by omega); rw [itemCells_at l i 2 q hq (by omega)] at this; simpa using this
end Go.Proofs.YthicdhnjincflaaGreatDoor

namespace Go.Proofs.YthicdhnjincflaaGreatDoor
open Go.RowKit Go.Shelf Go.Lib
theorem loadItem (w : World) (g : Nat) (v0 v1 v2 : Value) (h0 : w.cell? ⟨g, 0, none⟩ = some v0) (h1 : w.cell? ⟨g, 1, none⟩ = some v1) (h2 : w.cell? ⟨g, 2, none⟩ = some v2) :
    (loadVar 46 ⟨g, 0, none⟩).run Tryz.prog w = .ok (.agg #[v0, v1, v2]) w := by
  simp [go_sem, loadVar, h0, h1, h2, Tryz.isAgg46, Tryz.sizeOf46]
theorem results_item1 {fn : Func} {p u : Tmp} (h : fn.results = #[.cell p 46, .tmp u]) (tmps : Array Value) (w : World) (g : Nat) (v0 v1 v2 : Value) (hp : tmps.getD p undef = .pointer (some ⟨g, 0, none⟩))
    (h0 : w.cell? ⟨g, 0, none⟩ = some v0) (h1 : w.cell? ⟨g, 1, none⟩ = some v1) (h2 : w.cell? ⟨g, 2, none⟩ = some v2) :
    (results fn tmps).run Tryz.prog w = .ok (.tuple #[.agg #[v0, v1, v2], tmps.getD u undef]) w := by
  have hp' : tmps[p]?.getD undef = .pointer (some ⟨g, 0, none⟩) := by simpa using hp
  simp [results, h, hp', asAddr, loadItem w g v0 v1 v2 h0 h1 h2]
end Go.Proofs.YthicdhnjincflaaGreatDoor
