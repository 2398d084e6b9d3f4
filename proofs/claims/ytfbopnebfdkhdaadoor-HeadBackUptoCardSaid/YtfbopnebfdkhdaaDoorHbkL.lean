/- Plain: messages are read from their items as they were, and items that are read are those of the message. -/
import Derived.Test.YtfbopnebfdkhdaaDoorItB
import Derived.Test.YtfbopnebfdkhdaaDoorRdJ
import Derived.Test.YtfbopnebfdkhdaaDoorHlnL
import Derived.Test.YtfbopnebfdkhdaaDoorSamA
namespace Go.Proofs.YtfbopnebfdkhdaaDoor
open Go.RowKit Go.Shelf Go.Lib

theorem numB_itN {n : Nat} (h : n < 18446744073709551616) : numB (itN n) = false ∧ numV (itN n) = n := by
  have e : value (itN n).text = (n, 0) := value_num h
  unfold numB numV
  rw [e]
  exact ⟨rfl, rfl⟩
theorem opnL_itL (l : List Item) (m : Nat) (h : l.length = m) : opnB (itL l) m = false ∧ opnL (itL l) m = l := by
  have hb : opnB (itL l) m = false := by
    unfold opnB itL
    simp [Item.isList, Item.list, h]
  exact ⟨hb, opnL_good hb⟩
theorem txsL_texts (l : List ByteArray) : txsL (l.map itT) = l ∧ txsB (l.map itT) = false := by
  induction l with
  | nil => exact ⟨rfl, rfl⟩
  | cons x r ih =>
    rw [List.map_cons, txsL]
    refine ⟨?_, ?_⟩
    · rw [ih.1]; rfl
    · have h := ih.2
      unfold txsB at h ⊢
      rw [List.any_cons, h]; rfl
theorem ts_itTs (l : List ByteArray) : tsB (itTs l) = false ∧ tsL (itTs l) = l := by
  have hb : opnB (itTs l) (-1) = false := rfl
  have hl : opnL (itTs l) (-1) = l.map itT := opnL_good hb
  unfold tsB tsL
  rw [hb, hl]
  exact ⟨(txsL_texts l).2, (txsL_texts l).1⟩
theorem light_items {n m k : Nat} (hn : n < 18446744073709551616) (hm : m < 18446744073709551616) (hk : k < 18446744073709551616) (a b c d e : ByteArray) (br : List ByteArray) :
    lightB (itL (lightItems n m a b c d e k br)) = false ∧ tsL (li (itL (lightItems n m a b c d e k br)) 2) = br ∧ ∀ V, lightC (itL (lightItems n m a b c d e k br)) V = [.int .u64 n, .int .u64 m, .string a, .string b, .string c, .string d, .string e, .int .u64 k, V] := by
  obtain ⟨x, hx⟩ : ∃ x, itL (lightItems n m a b c d e k br) = x := ⟨_, rfl⟩
  rw [hx]
  have o3 : opnB x 3 = false ∧ opnL x 3 = lightItems n m a b c d e k br := by rw [← hx]; exact opnL_itL _ 3 rfl
  have l0 : li x 0 = itL [itN n, itN m, itT a, itT b, itT c] := by unfold li; rw [o3.2]; rfl
  have l1 : li x 1 = itL [itT d, itT e, itN k] := by unfold li; rw [o3.2]; rfl
  have l2 : li x 2 = itTs br := by unfold li; rw [o3.2]; rfl
  have o5 := opnL_itL [itN n, itN m, itT a, itT b, itT c] 5 rfl
  have oy := opnL_itL [itT d, itT e, itN k] 3 rfl
  have h0 : lh x 0 = itN n ∧ lh x 1 = itN m ∧ lh x 2 = itT a ∧ lh x 3 = itT b ∧ lh x 4 = itT c := by unfold lh; rw [l0, show opnL (itL [itN n, itN m, itT a, itT b, itT c]) 5 = _ from o5.2]; exact ⟨rfl, rfl, rfl, rfl, rfl⟩
  have y0 : ly x 0 = itT d ∧ ly x 1 = itT e ∧ ly x 2 = itN k := by unfold ly; rw [l1, show opnL (itL [itT d, itT e, itN k]) 3 = _ from oy.2]; exact ⟨rfl, rfl, rfl⟩
  refine ⟨?_, ?_, fun V => ?_⟩
  · unfold lightB lightB0
    rw [o3.1, l0, l1, l2, h0.1, h0.2.1, h0.2.2.1, h0.2.2.2.1, h0.2.2.2.2, y0.1, y0.2.1, y0.2.2, (numB_itN hn).1, (numB_itN hm).1, (numB_itN hk).1, show opnB (itL [itN n, itN m, itT a, itT b, itT c]) 5 = false from o5.1, show opnB (itL [itT d, itT e, itN k]) 3 = false from oy.1, (ts_itTs br).1]
    rfl
  · rw [l2]; exact (ts_itTs br).2
  · unfold lightC
    rw [h0.1, h0.2.1, h0.2.2.1, h0.2.2.2.1, h0.2.2.2.2, y0.1, y0.2.1, y0.2.2, (numB_itN hn).2, (numB_itN hm).2, (numB_itN hk).2]
    rfl
theorem comm_items (l : List ByteArray) (s : ByteArray) : commB (itL (commItems l s)) = false ∧ tsL (ci (itL (commItems l s)) 0) = l ∧ ∀ V, commC (itL (commItems l s)) V = [V, .string s] := by
  obtain ⟨x, hx⟩ : ∃ x, itL (commItems l s) = x := ⟨_, rfl⟩
  rw [hx]
  have o2 : opnB x 2 = false ∧ opnL x 2 = commItems l s := by rw [← hx]; exact opnL_itL _ 2 rfl
  have l0 : ci x 0 = itTs l := by unfold ci; rw [o2.2]; rfl
  have l1 : ci x 1 = itT s := by unfold ci; rw [o2.2]; rfl
  refine ⟨?_, ?_, fun V => ?_⟩
  · unfold commB
    rw [o2.1, l0, l1, (ts_itTs l).1]
    rfl
  · rw [l0]; exact (ts_itTs l).2
  · unfold commC
    rw [l1]
    rfl
/-! items that are no message's nonsense -/
theorem wrongAny_mem {l : List Item} (h : wrongAny l = false) {x : Item} (hx : x ∈ l) : wrong x = false := by
  induction l with
  | nil => cases hx
  | cons y r ih =>
    rw [wrongAny, Bool.or_eq_false_iff] at h
    rcases List.mem_cons.1 hx with rfl | hx
    · exact h.1
    · exact ih h.2 hx
theorem wrong_list {x : Item} (h : wrong x = false) (hl : x.isList = true) : x = itL x.list ∧ wrongAny x.list = false := by
  obtain ⟨b, t, l⟩ := x
  cases hl
  simp only [wrong, if_true, Bool.or_eq_false_iff] at h
  have ht : t = [] := by have := h.1; simpa using this
  subst ht
  exact ⟨rfl, h.2⟩
theorem wrong_text {x : Item} (h : wrong x = false) (hl : x.isList = false) : x = itT (txtB x) := by
  obtain ⟨b, t, l⟩ := x
  cases hl
  have : l = [] := by simpa [wrong] using h
  subst this
  rfl
theorem wrong_num {x : Item} (h : wrong x = false) (hn : numB x = false) : x = itN (numV x) := by
  unfold numB at hn
  rw [Bool.or_eq_false_iff] at hn
  obtain ⟨h1, h2⟩ := hn
  have h3 : (value x.text).2 = 0 := by simpa using h2
  have hx := wrong_text h h1
  have hv : ¬ (x.text.length > 8 ∨ x.text.head? = some 0) := fun hc => by
    unfold value at h3
    rw [if_pos hc] at h3
    cases h3
  have he : numV x = val x.text := by
    unfold numV value
    rw [if_neg hv]
  have hnum : num (numV x) = x.text := by rw [he]; exact num_val (fun hh => hv (.inr hh)) (by have : ¬ x.text.length > 8 := fun hh => hv (.inl hh); omega)
  rw [show itN (numV x) = .mk false (num (numV x)) [] from rfl, hnum]
  exact hx
theorem opn_eq {x : Item} {m : Nat} (h : opnB x m = false) : x.isList = true ∧ x.list.length = m ∧ opnL x m = x.list := by
  have h2 := opnL_good h
  have h3 := opnL_length x m
  rw [h2] at h3
  unfold opnB at h
  rw [Bool.or_eq_false_iff] at h
  exact ⟨by simpa using h.1, h3, h2⟩
theorem wrong_ts {x : Item} (h : wrong x = false) (ht : tsB x = false) : x = itTs (tsL x) := by
  unfold tsB at ht
  rw [Bool.or_eq_false_iff] at ht
  obtain ⟨h1, h2⟩ := ht
  have hl : opnL x (-1) = x.list := opnL_good h1
  have hil : x.isList = true := by
    unfold opnB at h1
    rw [Bool.or_eq_false_iff] at h1
    simpa using h1.1
  obtain ⟨h3, h4⟩ := wrong_list h hil
  unfold tsL
  rw [hl] at h2 ⊢
  have key : ∀ l : List Item, wrongAny l = false → txsB l = false → (txsL l).map itT = l := by
    intro l
    induction l with
    | nil => intro _ _; rfl
    | cons y r ih =>
      intro k1 k2
      rw [wrongAny, Bool.or_eq_false_iff] at k1
      unfold txsB at k2
      rw [List.any_cons, Bool.or_eq_false_iff] at k2
      rw [txsL, k2.1, if_neg (by simp), List.map_cons, ih k1.2 (by unfold txsB; exact k2.2), ← wrong_text k1.1 k2.1]
  unfold itTs
  rw [key _ h4 h2]
  exact h3
theorem light_back {x : Item} (h : wrong x = false) (hb : lightB x = false) : x = itL (lightItems (numV (lh x 0)) (numV (lh x 1)) (txtB (lh x 2)) (txtB (lh x 3)) (txtB (lh x 4)) (txtB (ly x 0)) (txtB (ly x 1)) (numV (ly x 2)) (tsL (li x 2))) := by
  unfold lightB lightB0 at hb
  simp only [Bool.or_eq_false_iff] at hb
  obtain ⟨⟨⟨⟨⟨⟨⟨⟨⟨b3, n0⟩, n1⟩, t2⟩, t3⟩, t4⟩, u0⟩, u1⟩, n2⟩, ⟨b5, by3⟩, bt⟩ := hb
  obtain ⟨i1, i2, i3⟩ := opn_eq (m := 3) b3
  obtain ⟨x0, x1, x2, hx⟩ := opn3 x
  have q0 : li x 0 = x0 := by unfold li; rw [hx]; rfl
  have q1 : li x 1 = x1 := by unfold li; rw [hx]; rfl
  have q2 : li x 2 = x2 := by unfold li; rw [hx]; rfl
  obtain ⟨w1, w2⟩ := wrong_list h i1
  have hxl : x.list = [x0, x1, x2] := i3.symm.trans hx
  rw [hxl] at w1 w2
  have v0 := wrongAny_mem w2 (x := x0) (by simp)
  have v1 := wrongAny_mem w2 (x := x1) (by simp)
  have v2 := wrongAny_mem w2 (x := x2) (by simp)
  rw [q0] at b5
  rw [q1] at by3
  rw [q2] at bt
  obtain ⟨j1, j2, j3⟩ := opn_eq (m := 5) b5
  obtain ⟨h0, h1, h2, h3, h4, hh⟩ := opn5 x0
  obtain ⟨w3, w4⟩ := wrong_list v0 j1
  have hhl : x0.list = [h0, h1, h2, h3, h4] := j3.symm.trans hh
  rw [hhl] at w3 w4
  obtain ⟨k1, k2, k3⟩ := opn_eq (m := 3) by3
  obtain ⟨y0, y1, y2, hy⟩ := opn3 x1
  obtain ⟨w5, w6⟩ := wrong_list v1 k1
  have hyl : x1.list = [y0, y1, y2] := k3.symm.trans hy
  rw [hyl] at w5 w6
  have e0 : lh x 0 = h0 ∧ lh x 1 = h1 ∧ lh x 2 = h2 ∧ lh x 3 = h3 ∧ lh x 4 = h4 := by unfold lh; rw [q0, hh]; exact ⟨rfl, rfl, rfl, rfl, rfl⟩
  have e1 : ly x 0 = y0 ∧ ly x 1 = y1 ∧ ly x 2 = y2 := by unfold ly; rw [q1, hy]; exact ⟨rfl, rfl, rfl⟩
  rw [e0.1] at n0 ⊢
  rw [e0.2.1] at n1 ⊢
  rw [e0.2.2.1] at t2 ⊢
  rw [e0.2.2.2.1] at t3 ⊢
  rw [e0.2.2.2.2] at t4 ⊢
  rw [e1.1] at u0 ⊢
  rw [e1.2.1] at u1 ⊢
  rw [e1.2.2] at n2 ⊢
  rw [q2]
  unfold lightItems
  rw [← wrong_num (wrongAny_mem w4 (by simp)) n0, ← wrong_num (wrongAny_mem w4 (by simp)) n1, ← wrong_text (wrongAny_mem w4 (by simp)) t2, ← wrong_text (wrongAny_mem w4 (by simp)) t3, ← wrong_text (wrongAny_mem w4 (by simp)) t4,
    ← wrong_text (wrongAny_mem w6 (by simp)) u0, ← wrong_text (wrongAny_mem w6 (by simp)) u1, ← wrong_num (wrongAny_mem w6 (by simp)) n2, ← wrong_ts v2 bt, ← w3, ← w5]
  exact w1
theorem comm_back {x : Item} (h : wrong x = false) (hb : commB x = false) : x = itL (commItems (tsL (ci x 0)) (txtB (ci x 1))) := by
  unfold commB at hb
  simp only [Bool.or_eq_false_iff] at hb
  obtain ⟨⟨b2, t1⟩, bt⟩ := hb
  obtain ⟨i1, i2, i3⟩ := opn_eq (m := 2) b2
  obtain ⟨c0, c1, hx⟩ := opn2 x
  have q0 : ci x 0 = c0 := by unfold ci; rw [hx]; rfl
  have q1 : ci x 1 = c1 := by unfold ci; rw [hx]; rfl
  obtain ⟨w1, w2⟩ := wrong_list h i1
  have hxl : x.list = [c0, c1] := i3.symm.trans hx
  rw [hxl] at w1 w2
  rw [q0] at bt
  rw [q1] at t1
  rw [q0, q1]
  unfold commItems
  rw [← wrong_ts (wrongAny_mem w2 (by simp)) bt, ← wrong_text (wrongAny_mem w2 (by simp)) t1]
  exact w1
end Go.Proofs.YtfbopnebfdkhdaaDoor
/- Plain: a Boot, an Update, there and back. -/
namespace Go.Proofs.YtfbopnebfdkhdaaDoor
open Go.RowKit Go.Shelf Go.Lib

theorem boot_fwd (n0 m0 : Nat) (a0 b0 cc0 d0 e0 : ByteArray) (k0 : Nat) (t0 : List ByteArray) (t1 : List ByteArray) (s1 : ByteArray) (t2 : List ByteArray) (hn0 : n0 < 18446744073709551616) (hm0 : m0 < 18446744073709551616) (hk0 : k0 < 18446744073709551616)   (x : Item) (hx : itL (bootItems n0 m0 a0 b0 cc0 d0 e0 k0 t0 t1 s1 t2) = x) : bootBad x 0 = false ∧ (tsL (li (bootI x 0) 2) = t0 ∧ tsL (ci (bootI x 1) 0) = t1 ∧ tsL (bootI x 2) = t2) ∧ ∀ V0 V1 V2, bootC x V0 V1 V2 = [.int .u64 n0, .int .u64 m0, .string a0, .string b0, .string cc0, .string d0, .string e0, .int .u64 k0, V0, V1, .string s1, V2] := by
  have o3 : opnB x 3 = false ∧ opnL x 3 = bootItems n0 m0 a0 b0 cc0 d0 e0 k0 t0 t1 s1 t2 := by rw [← hx]; exact opnL_itL _ 3 rfl
  have q0 : bootI x 0 = itL (lightItems n0 m0 a0 b0 cc0 d0 e0 k0 t0) := by unfold bootI; rw [o3.2]; rfl
  have q1 : bootI x 1 = itL (commItems t1 s1) := by unfold bootI; rw [o3.2]; rfl
  have q2 : bootI x 2 = itTs t2 := by unfold bootI; rw [o3.2]; rfl
  have g0 := light_items hn0 hm0 hk0 a0 b0 cc0 d0 e0 t0
  have g1 := comm_items t1 s1
  have g2 := ts_itTs t2
  refine ⟨?_, ⟨by rw [q0]; exact g0.2.1, by rw [q1]; exact g1.2.1, by rw [q2]; exact g2.2⟩, fun _ _ _ => ?_⟩
  · unfold bootBad
    rw [o3.1, q0, q1, q2, g0.1, g1.1, g2.1]
    rfl
  · unfold bootC
    rw [q0, q1, g0.2.2, g1.2.2]
    rfl
theorem boot_rev (x : Item) (ce : Int) (h : wrong x = false) (hb : bootBad x ce = false) : ce = 0 ∧ x = itL (bootItems (numV (lh (bootI x 0) 0)) (numV (lh (bootI x 0) 1)) (txtB (lh (bootI x 0) 2)) (txtB (lh (bootI x 0) 3)) (txtB (lh (bootI x 0) 4)) (txtB (ly (bootI x 0) 0)) (txtB (ly (bootI x 0) 1)) (numV (ly (bootI x 0) 2)) (tsL (li (bootI x 0) 2)) (tsL (ci (bootI x 1) 0)) (txtB (ci (bootI x 1) 1)) (tsL (bootI x 2))) := by
  unfold bootBad at hb
  simp only [Bool.or_eq_false_iff] at hb
  obtain ⟨⟨⟨⟨opb, hce⟩, w0⟩, w1⟩, w2⟩ := hb
  obtain ⟨j1, j2, j3⟩ := opn_eq (m := 3) opb
  obtain ⟨i0, i1, i2, hx⟩ := opn3 x
  have q0 : bootI x 0 = i0 := by unfold bootI; rw [hx]; rfl
  have q1 : bootI x 1 = i1 := by unfold bootI; rw [hx]; rfl
  have q2 : bootI x 2 = i2 := by unfold bootI; rw [hx]; rfl
  obtain ⟨z1, z2⟩ := wrong_list h j1
  have hxl : x.list = [i0, i1, i2] := j3.symm.trans hx
  rw [hxl] at z1 z2
  rw [q0] at w0
  rw [q1] at w1
  rw [q2] at w2
  refine ⟨by simpa using hce, ?_⟩
  rw [q0, q1, q2]
  unfold bootItems
  rw [← light_back (wrongAny_mem z2 (by simp)) w0, ← comm_back (wrongAny_mem z2 (by simp)) w1, ← wrong_ts (wrongAny_mem z2 (by simp)) w2]
  exact z1
theorem upd_fwd (n0 m0 : Nat) (a0 b0 cc0 d0 e0 : ByteArray) (k0 : Nat) (t0 : List ByteArray) (t1 : List ByteArray) (s1 : ByteArray) (t2 : List ByteArray) (n3 m3 : Nat) (a3 b3 cc3 d3 e3 : ByteArray) (k3 : Nat) (t3 : List ByteArray) (t4 : List ByteArray) (n5 : Nat) (s6 : ByteArray) (n7 : Nat) (hn0 : n0 < 18446744073709551616) (hm0 : m0 < 18446744073709551616) (hk0 : k0 < 18446744073709551616)   (hn3 : n3 < 18446744073709551616) (hm3 : m3 < 18446744073709551616) (hk3 : k3 < 18446744073709551616)  (hn5 : n5 < 18446744073709551616)  (hn7 : n7 < 18446744073709551616) (x : Item) (hx : itL (updItems n0 m0 a0 b0 cc0 d0 e0 k0 t0 t1 s1 t2 n3 m3 a3 b3 cc3 d3 e3 k3 t3 t4 n5 s6 n7) = x) : updBad x 0 = false ∧ (tsL (li (updI x 0) 2) = t0 ∧ tsL (ci (updI x 1) 0) = t1 ∧ tsL (updI x 2) = t2 ∧ tsL (li (updI x 3) 2) = t3 ∧ tsL (updI x 4) = t4) ∧ ∀ V0 V1 V2 V3 V4, updC x V0 V1 V2 V3 V4 = [.int .u64 n0, .int .u64 m0, .string a0, .string b0, .string cc0, .string d0, .string e0, .int .u64 k0, V0, V1, .string s1, V2, .int .u64 n3, .int .u64 m3, .string a3, .string b3, .string cc3, .string d3, .string e3, .int .u64 k3, V3, V4, .int .u64 n5, .string s6, .int .u64 n7] := by
  have o3 : opnB x 8 = false ∧ opnL x 8 = updItems n0 m0 a0 b0 cc0 d0 e0 k0 t0 t1 s1 t2 n3 m3 a3 b3 cc3 d3 e3 k3 t3 t4 n5 s6 n7 := by rw [← hx]; exact opnL_itL _ 8 rfl
  have q0 : updI x 0 = itL (lightItems n0 m0 a0 b0 cc0 d0 e0 k0 t0) := by unfold updI; rw [o3.2]; rfl
  have q1 : updI x 1 = itL (commItems t1 s1) := by unfold updI; rw [o3.2]; rfl
  have q2 : updI x 2 = itTs t2 := by unfold updI; rw [o3.2]; rfl
  have q3 : updI x 3 = itL (lightItems n3 m3 a3 b3 cc3 d3 e3 k3 t3) := by unfold updI; rw [o3.2]; rfl
  have q4 : updI x 4 = itTs t4 := by unfold updI; rw [o3.2]; rfl
  have q5 : updI x 5 = itN n5 := by unfold updI; rw [o3.2]; rfl
  have q6 : updI x 6 = itT s6 := by unfold updI; rw [o3.2]; rfl
  have q7 : updI x 7 = itN n7 := by unfold updI; rw [o3.2]; rfl
  have g0 := light_items hn0 hm0 hk0 a0 b0 cc0 d0 e0 t0
  have g1 := comm_items t1 s1
  have g2 := ts_itTs t2
  have g3 := light_items hn3 hm3 hk3 a3 b3 cc3 d3 e3 t3
  have g4 := ts_itTs t4
  have g5 := numB_itN hn5
  have g7 := numB_itN hn7
  refine ⟨?_, ⟨by rw [q0]; exact g0.2.1, by rw [q1]; exact g1.2.1, by rw [q2]; exact g2.2, by rw [q3]; exact g3.2.1, by rw [q4]; exact g4.2⟩, fun _ _ _ _ _ => ?_⟩
  · unfold updBad
    rw [o3.1, q0, q1, q2, q3, q4, q5, q6, q7, g0.1, g1.1, g2.1, g3.1, g4.1, g5.1, g7.1]
    rfl
  · unfold updC
    rw [q0, q1, q3, q5, q6, q7, g0.2.2, g1.2.2, g3.2.2, g5.2, g7.2]
    rfl
theorem upd_rev (x : Item) (ce : Int) (h : wrong x = false) (hb : updBad x ce = false) : ce = 0 ∧ x = itL (updItems (numV (lh (updI x 0) 0)) (numV (lh (updI x 0) 1)) (txtB (lh (updI x 0) 2)) (txtB (lh (updI x 0) 3)) (txtB (lh (updI x 0) 4)) (txtB (ly (updI x 0) 0)) (txtB (ly (updI x 0) 1)) (numV (ly (updI x 0) 2)) (tsL (li (updI x 0) 2)) (tsL (ci (updI x 1) 0)) (txtB (ci (updI x 1) 1)) (tsL (updI x 2)) (numV (lh (updI x 3) 0)) (numV (lh (updI x 3) 1)) (txtB (lh (updI x 3) 2)) (txtB (lh (updI x 3) 3)) (txtB (lh (updI x 3) 4)) (txtB (ly (updI x 3) 0)) (txtB (ly (updI x 3) 1)) (numV (ly (updI x 3) 2)) (tsL (li (updI x 3) 2)) (tsL (updI x 4)) (numV (updI x 5)) (txtB (updI x 6)) (numV (updI x 7))) := by
  unfold updBad at hb
  simp only [Bool.or_eq_false_iff] at hb
  obtain ⟨⟨⟨⟨⟨⟨⟨⟨⟨opb, hce⟩, w0⟩, w1⟩, w2⟩, w3⟩, w4⟩, w5⟩, w6⟩, w7⟩ := hb
  obtain ⟨j1, j2, j3⟩ := opn_eq (m := 8) opb
  obtain ⟨i0, i1, i2, i3, i4, i5, i6, i7, hx⟩ := opn8 x
  have q0 : updI x 0 = i0 := by unfold updI; rw [hx]; rfl
  have q1 : updI x 1 = i1 := by unfold updI; rw [hx]; rfl
  have q2 : updI x 2 = i2 := by unfold updI; rw [hx]; rfl
  have q3 : updI x 3 = i3 := by unfold updI; rw [hx]; rfl
  have q4 : updI x 4 = i4 := by unfold updI; rw [hx]; rfl
  have q5 : updI x 5 = i5 := by unfold updI; rw [hx]; rfl
  have q6 : updI x 6 = i6 := by unfold updI; rw [hx]; rfl
  have q7 : updI x 7 = i7 := by unfold updI; rw [hx]; rfl
  obtain ⟨z1, z2⟩ := wrong_list h j1
  have hxl : x.list = [i0, i1, i2, i3, i4, i5, i6, i7] := j3.symm.trans hx
  rw [hxl] at z1 z2
  rw [q0] at w0
  rw [q1] at w1
  rw [q2] at w2
  rw [q3] at w3
  rw [q4] at w4
  rw [q5] at w5
  rw [q6] at w6
  rw [q7] at w7
  refine ⟨by simpa using hce, ?_⟩
  rw [q0, q1, q2, q3, q4, q5, q6, q7]
  unfold updItems
  rw [← light_back (wrongAny_mem z2 (by simp)) w0, ← comm_back (wrongAny_mem z2 (by simp)) w1, ← wrong_ts (wrongAny_mem z2 (by simp)) w2, ← light_back (wrongAny_mem z2 (by simp)) w3, ← wrong_ts (wrongAny_mem z2 (by simp)) w4, ← wrong_num (wrongAny_mem z2 (by simp)) w5, ← wrong_text (wrongAny_mem z2 (by simp)) w6, ← wrong_num (wrongAny_mem z2 (by simp)) w7]
  exact z1
mutual
theorem weight_put : ∀ (x : Item), wrong x = false → x.weight ≤ 2 * (put x).length
  | .mk b t l => fun h => by
    cases b with
    | true =>
      have hw := wrong_list h rfl
      have ht : t = [] := by have := congrArg Item.text hw.1; exact this
      subst ht
      have ih := weight_putAll l hw.2
      have hp : (put (.mk true [] l)).length ≥ (putAll l).length + 1 := by
        rw [put, if_pos rfl]
        exact framed_le _ _
      rw [Item.weight]
      simp only [List.length_nil]
      omega
    | false =>
      have hw := wrong_text h rfl
      have hl : l = [] := by have := congrArg Item.list hw; exact this
      subst hl
      have hp : (put (.mk false t [])).length ≥ max 1 t.length := by
        rw [put, if_neg (by simp)]
        unfold putText
        split
        · rename_i hc; omega
        · have := framed_le t 128; omega
      rw [Item.weight]
      simp only [weightAll]
      omega
theorem weight_putAll : ∀ (l : List Item), wrongAny l = false → weightAll l ≤ 2 * (putAll l).length
  | [] => fun _ => Nat.zero_le _
  | x :: r => fun h => by
    rw [wrongAny, Bool.or_eq_false_iff] at h
    have h1 := weight_put x h.1
    have h2 := weight_putAll r h.2
    rw [weightAll, putAll, List.length_append]
    omega
end
end Go.Proofs.YtfbopnebfdkhdaaDoor
/- The walk of HeadBack. -/
namespace Go.Proofs.YtfbopnebfdkhdaaDoor
open Go.RowKit Go.Shelf Go.Lib
attribute [local go_sem] Oper.semAt_some

theorem wpList_load_midV {P : Program} {ops : Array Oper} {rest : List Oper} {op : Oper} {a : Act} {w : World} {Q : Exit → Act → World → Prop} (hw : Region.wanted op (yielded ops a.tmps) = true) (ty : TypeId) (x : Operand) (ho : op.op = .load ty x)
    (b o : Nat) (hx : a.eval x = .pointer (some ⟨b, o, none⟩)) (cs : List Value) (d : TypeDesc) (hc : w.rangeAt b o cs)
    (hu : P.underlying ty = some d) (hd : d.isRow = true) (hi : (P.info? ty).map (·.size) = some cs.length)
    (h : wpList P ops Q rest (a.put op.dst (.agg cs.toArray)) w) : wpList P ops Q (op :: rest) a w :=
  wpList_step fun K hK => by rw [if_pos hw]; exact wp_load_mid ty x ho b o hx cs d hc hu hd hi (hK _ _ h)
/-- what a call that reads bytes gives: cells of which P holds, and a code -/
def GivesP (f : Nat) (s : ByteArray) (P : List Value → World → Prop) (c : Int) : Prop := ∀ W, Calls Tryd.prog f #[.string s] W fun e w' => ∃ cl, e = .returned (.tuple #[.agg cl.toArray, .int .i64 c]) ∧ P cl w' ∧ Below W.heap.size W w'
/-- what a call that writes bytes gives -/
def WritesP (f : Nat) (P : List Value → World → Prop) (t : ByteArray) (c : Int) : Prop := ∀ cl W, P cl W → Calls Tryd.prog f #[.agg cl.toArray] W fun e w' => e = .returned (.tuple #[.string t, .int .i64 c]) ∧ Below W.heap.size W w'
structure ShapeP (P : List Value → World → Prop) (N : Nat) : Prop where
  len : ∀ cl W, P cl W → cl.length = N
  one : ∀ cl W, P cl W → cl.toArray.all (·.oneCell') = true
  keep : ∀ cl W W', P cl W → Below W.heap.size W W' → P cl W'
set_option maxRecDepth 100000 in
set_option maxHeartbeats 51200000 in
theorem hbk_walk (cb cu : List Value) (hcb : cb.length = 12) (hcu : cu.length = 25) (s t1 t2 y o : ByteArray) (e1 e2 c2 c4 c5 k c7 m : Int) (P2 P4 P5 P7 : List Value → World → Prop) (w : World) (hK : KTab w)
    (S2 : ShapeP P2 12) (S4 : ShapeP P4 25) (S5 : ShapeP P5 25) (S7 : ShapeP P7 12)
    (h1 : ∀ W, Below w.heap.size w W → Calls Tryd.prog 29 #[.agg cb.toArray] W fun x w' => x = .returned (.tuple #[.string t1, .int .i64 e1]) ∧ Below W.heap.size W w')
    (h2 : GivesP 23 t1 P2 c2)
    (h3 : ∀ W, Below w.heap.size w W → Calls Tryd.prog 31 #[.agg cu.toArray] W fun x w' => x = .returned (.tuple #[.string t2, .int .i64 e2]) ∧ Below W.heap.size W w')
    (h4 : GivesP 25 t2 P4 c4) (h5 : GivesP 25 s P5 c5) (h6 : WritesP 31 P5 y k) (h7 : GivesP 23 s P7 c7) (h8 : WritesP 29 P7 o m)
    (g1 : e1 = 0 → c2 = 0 ∧ ∀ cl W, Below w.heap.size w W → P2 cl W → Calls Tryd.prog 27 #[.agg cb.toArray, .agg cl.toArray] W fun e w' => e = .returned (.bool true) ∧ Below W.heap.size W w')
    (g2 : e2 = 0 → c4 = 0 ∧ ∀ cl W, Below w.heap.size w W → P4 cl W → Calls Tryd.prog 28 #[.agg cu.toArray, .agg cl.toArray] W fun e w' => e = .returned (.bool true) ∧ Below W.heap.size W w')
    (g3 : c5 = 0 → k = 0 ∧ y = s) (g4 : c7 = 0 → m = 0 ∧ o = s) :
    Calls Tryd.prog 8 #[.agg cb.toArray, .agg cu.toArray, .string s] w fun x w' => x = .returned (.bool true) ∧ Below w.heap.size w w' := by
  have H1 := Lib.hid h1
  have H2 := Lib.hid h2
  have H3 := Lib.hid h3
  have H4 := Lib.hid h4
  have H5 := Lib.hid h5
  have H6 := Lib.hid h6
  have H7 := Lib.hid h7
  have H8 := Lib.hid h8
  have G1 := Lib.hid g1
  have G2 := Lib.hid g2
  have G3 := Lib.hid g3
  have G4 := Lib.hid g4
  have T2 := Lib.hid S2
  have T4 := Lib.hid S4
  have T5 := Lib.hid S5
  have T7 := Lib.hid S7
  have HK := Lib.hid hK
  have HCB := Lib.hid hcb
  have HCU := Lib.hid hcu
  have HIB := Lib.hid (show (Tryd.prog.info? 48).map (·.size) = some cb.length from by rw [hcb]; exact infoBoot)
  have HIU := Lib.hid (show (Tryd.prog.info? 52).map (·.size) = some cu.length from by rw [hcu]; exact infoUpdate)
  have hcl := hby_cells cb cu w
  clear h1 h2 h3 h4 h5 h6 h7 h8 g1 g2 g3 g4 S2 S4 S5 S7 hK hcb hcu
  obtain ⟨Ab, hAb⟩ : ∃ A, cb.toArray = A := ⟨_, rfl⟩
  obtain ⟨Au, hAu⟩ : ∃ A, cu.toArray = A := ⟨_, rfl⟩
  have HAb := Lib.hid hAb
  have HAu := Lib.hid hAu
  rw [hAb, hAu] at hcl ⊢
  rw [hAb] at H1 G1
  rw [hAu] at H3 G2
  clear hAb hAu
  go_enter Tryd.func8, Tryd.ntmps8
  go_wp2_with fail
  obtain ⟨wb, hwb⟩ : ∃ wb, ((w.alloc (.cells Ab 48)).alloc (.cells Au 52)) = wb := ⟨_, rfl⟩
  rw [hwb] at hcl ⊢
  clear hwb
  obtain ⟨hb, hS, hT⟩ := hcl
  have HWB := Lib.hid hb
  have HSB := Lib.hid hS
  have HSU := Lib.hid hT
  clear hb hS hT
  refine (shown13_any wb (HK.out.below HWB.out)).mono ?_
  rintro z w1 ⟨rfl, b1⟩
  go_wp2_with ((with_reducible refine load_gate 48 ?_); refine wpList_load_mid rfl 48 _ rfl w.heap.size 0 rfl cb _ (HSB.out w1 b1) Tryd.underlying48 rfl HIB.out ?_)
  rw [HAb.out]
  refine (H1.out w1 (HWB.out.trans (b1.mono HWB.out.size))).mono ?_
  rintro z w2 ⟨rfl, hb⟩
  have b2 := b1.trans (hb.mono b1.size)
  clear hb
  go_wp2_with fail
  refine (H2.out w2).mono ?_
  rintro e w3 ⟨cl1, rfl, hp, hb⟩
  have hlen := T2.out.len _ _ hp
  have hone := T2.out.one _ _ hp
  have hza : HasCells (w3.alloc (.cells bootZ.toArray 48)) w3.heap.size bootZ 48 := HasCells.new _ _ _
  have hzs : HasCells ((w3.alloc (.cells bootZ.toArray 48)).setCells w3.heap.size 0 cl1) w3.heap.size cl1 48 := by
    have h := hza.sets cl1 0
    rwa [spl_fullH (by rw [hlen]; rfl)] at h
  obtain ⟨u1, hm⟩ : ∃ W, (w3.alloc (.cells bootZ.toArray 48)).setCells w3.heap.size 0 cl1 = W := ⟨_, rfl⟩
  have hbm : Below w3.heap.size w3 u1 := by rw [← hm]; exact ((Below.refl _ _).alloc (Nat.le_refl _) _).trans (sets_belowH (Nat.le_refl _) _ _ _)
  rw [hm] at hzs
  have F1 := Lib.hid (hb.trans (hbm.mono hb.size))
  have b3 := b2.trans (F1.out.mono b2.size)
  have hth : (w3.alloc (.cells bootZ.toArray 48)).there w3.heap.size 0 cl1.toArray.size := by rw [show cl1.toArray.size = 12 from hlen]; exact hza.there 0 12 (by decide)
  have hsi : (Tryd.prog.info? 48).map (·.size) = some cl1.toArray.size := by rw [show cl1.toArray.size = 12 from hlen]; exact infoBootR
  have HTH := Lib.hid hth
  have HSI := Lib.hid hsi
  have HON := Lib.hid hone
  have HM1 := Lib.hid hm
  have HQ1 := Lib.hid hzs
  have HI1 := Lib.hid (show (Tryd.prog.info? 48).map (·.size) = some cl1.length from hsi)
  have HP1 := Lib.hid (T2.out.keep _ _ _ hp hbm)
  clear hm hzs hza hbm hth hsi hone hlen hp hb
  go_wp2_with (first | ((with_reducible refine store_gate 48 ?_); refine wpList_store_mid rfl 48 _ _ rfl w3.heap.size 0 cl1.toArray rfl rfl HTH.out HSI.out HON.out ?_; rw [show (w3.alloc (.cells #[.int .u64 0, .int .u64 0, .string ⟨#[]⟩, .string ⟨#[]⟩, .string ⟨#[]⟩, .string ⟨#[]⟩, .string ⟨#[]⟩, .int .u64 0, .slice none 0 0, .slice none 0 0, .string ⟨#[]⟩, .slice none 0 0] 48)).setCells w3.heap.size 0 cl1.toArray.toList = u1 from HM1.out]) | ((with_reducible refine load_gate 52 ?_); refine wpList_load_mid rfl 52 _ rfl (w.heap.size + 1) 0 rfl cu _ (HSU.out u1 b3) Tryd.underlying52 rfl HIU.out ?_))
  clear HTH HSI HON
  rw [HAu.out]
  refine (H3.out u1 (HWB.out.trans (b3.mono HWB.out.size))).mono ?_
  rintro z w4 ⟨rfl, hb⟩
  have b4 := b3.trans (hb.mono b3.size)
  have D1 := Lib.hid hb
  clear hb
  go_wp2_with fail
  refine (H4.out w4).mono ?_
  rintro e w5 ⟨cl2, rfl, hp, hb⟩
  have hlen := T4.out.len _ _ hp
  have hone := T4.out.one _ _ hp
  have hza : HasCells (w5.alloc (.cells updZ.toArray 52)) w5.heap.size updZ 52 := HasCells.new _ _ _
  have hzs : HasCells ((w5.alloc (.cells updZ.toArray 52)).setCells w5.heap.size 0 cl2) w5.heap.size cl2 52 := by
    have h := hza.sets cl2 0
    rwa [spl_fullH (by rw [hlen]; rfl)] at h
  obtain ⟨u2, hm⟩ : ∃ W, (w5.alloc (.cells updZ.toArray 52)).setCells w5.heap.size 0 cl2 = W := ⟨_, rfl⟩
  have hbm : Below w5.heap.size w5 u2 := by rw [← hm]; exact ((Below.refl _ _).alloc (Nat.le_refl _) _).trans (sets_belowH (Nat.le_refl _) _ _ _)
  rw [hm] at hzs
  have F2 := Lib.hid (hb.trans (hbm.mono hb.size))
  have b5 := b4.trans (F2.out.mono b4.size)
  have hth : (w5.alloc (.cells updZ.toArray 52)).there w5.heap.size 0 cl2.toArray.size := by rw [show cl2.toArray.size = 25 from hlen]; exact hza.there 0 25 (by decide)
  have hsi : (Tryd.prog.info? 52).map (·.size) = some cl2.toArray.size := by rw [show cl2.toArray.size = 25 from hlen]; exact infoUpdateH
  have HTH := Lib.hid hth
  have HSI := Lib.hid hsi
  have HON := Lib.hid hone
  have HM2 := Lib.hid hm
  have HQ2 := Lib.hid hzs
  have HI2 := Lib.hid (show (Tryd.prog.info? 52).map (·.size) = some cl2.length from hsi)
  have HP2 := Lib.hid (T4.out.keep _ _ _ hp hbm)
  clear hm hzs hza hbm hth hsi hone hlen hp hb
  go_wp2_with ((with_reducible refine store_gate 52 ?_); refine wpList_store_mid rfl 52 _ _ rfl w5.heap.size 0 cl2.toArray rfl rfl HTH.out HSI.out HON.out ?_; rw [show (w5.alloc (.cells #[.int .u64 0, .int .u64 0, .string ⟨#[]⟩, .string ⟨#[]⟩, .string ⟨#[]⟩, .string ⟨#[]⟩, .string ⟨#[]⟩, .int .u64 0, .slice none 0 0, .slice none 0 0, .string ⟨#[]⟩, .slice none 0 0, .int .u64 0, .int .u64 0, .string ⟨#[]⟩, .string ⟨#[]⟩, .string ⟨#[]⟩, .string ⟨#[]⟩, .string ⟨#[]⟩, .int .u64 0, .slice none 0 0, .slice none 0 0, .int .u64 0, .string ⟨#[]⟩, .int .u64 0] 52)).setCells w5.heap.size 0 cl2.toArray.toList = u2 from HM2.out])
  clear HTH HSI HON
  refine (H5.out u2).mono ?_
  rintro e w6 ⟨cl3, rfl, hp, hb⟩
  have hlen := T5.out.len _ _ hp
  have hone := T5.out.one _ _ hp
  have hza : HasCells (w6.alloc (.cells updZ.toArray 52)) w6.heap.size updZ 52 := HasCells.new _ _ _
  have hzs : HasCells ((w6.alloc (.cells updZ.toArray 52)).setCells w6.heap.size 0 cl3) w6.heap.size cl3 52 := by
    have h := hza.sets cl3 0
    rwa [spl_fullH (by rw [hlen]; rfl)] at h
  obtain ⟨u3, hm⟩ : ∃ W, (w6.alloc (.cells updZ.toArray 52)).setCells w6.heap.size 0 cl3 = W := ⟨_, rfl⟩
  have hbm : Below w6.heap.size w6 u3 := by rw [← hm]; exact ((Below.refl _ _).alloc (Nat.le_refl _) _).trans (sets_belowH (Nat.le_refl _) _ _ _)
  rw [hm] at hzs
  have F3 := Lib.hid (hb.trans (hbm.mono hb.size))
  have b6 := b5.trans (F3.out.mono b5.size)
  have hth : (w6.alloc (.cells updZ.toArray 52)).there w6.heap.size 0 cl3.toArray.size := by rw [show cl3.toArray.size = 25 from hlen]; exact hza.there 0 25 (by decide)
  have hsi : (Tryd.prog.info? 52).map (·.size) = some cl3.toArray.size := by rw [show cl3.toArray.size = 25 from hlen]; exact infoUpdateH
  have HTH := Lib.hid hth
  have HSI := Lib.hid hsi
  have HON := Lib.hid hone
  have HM3 := Lib.hid hm
  have HQ3 := Lib.hid hzs
  have HI3 := Lib.hid (show (Tryd.prog.info? 52).map (·.size) = some cl3.length from hsi)
  have HP3 := Lib.hid (T5.out.keep _ _ _ hp hbm)
  clear hm hzs hza hbm hth hsi hone hlen hp hb
  go_wp2_with (first | ((with_reducible refine store_gate 52 ?_); refine wpList_store_mid rfl 52 _ _ rfl w6.heap.size 0 cl3.toArray rfl rfl HTH.out HSI.out HON.out ?_; rw [show (w6.alloc (.cells #[.int .u64 0, .int .u64 0, .string ⟨#[]⟩, .string ⟨#[]⟩, .string ⟨#[]⟩, .string ⟨#[]⟩, .string ⟨#[]⟩, .int .u64 0, .slice none 0 0, .slice none 0 0, .string ⟨#[]⟩, .slice none 0 0, .int .u64 0, .int .u64 0, .string ⟨#[]⟩, .string ⟨#[]⟩, .string ⟨#[]⟩, .string ⟨#[]⟩, .string ⟨#[]⟩, .int .u64 0, .slice none 0 0, .slice none 0 0, .int .u64 0, .string ⟨#[]⟩, .int .u64 0] 52)).setCells w6.heap.size 0 cl3.toArray.toList = u3 from HM3.out]) | ((with_reducible refine load_gate 52 ?_); refine wpList_load_mid rfl 52 _ rfl w6.heap.size 0 rfl cl3 _ HQ3.out.range Tryd.underlying52 rfl HI3.out ?_))
  clear HTH HSI HON
  refine (H6.out cl3 u3 HP3.out).mono ?_
  rintro z w7 ⟨rfl, hb⟩
  have b7 := b6.trans (hb.mono b6.size)
  have D2 := Lib.hid hb
  clear hb
  go_wp2_with fail
  refine (H7.out w7).mono ?_
  rintro e w8 ⟨cl4, rfl, hp, hb⟩
  have hlen := T7.out.len _ _ hp
  have hone := T7.out.one _ _ hp
  have hza : HasCells (w8.alloc (.cells bootZ.toArray 48)) w8.heap.size bootZ 48 := HasCells.new _ _ _
  have hzs : HasCells ((w8.alloc (.cells bootZ.toArray 48)).setCells w8.heap.size 0 cl4) w8.heap.size cl4 48 := by
    have h := hza.sets cl4 0
    rwa [spl_fullH (by rw [hlen]; rfl)] at h
  obtain ⟨u4, hm⟩ : ∃ W, (w8.alloc (.cells bootZ.toArray 48)).setCells w8.heap.size 0 cl4 = W := ⟨_, rfl⟩
  have hbm : Below w8.heap.size w8 u4 := by rw [← hm]; exact ((Below.refl _ _).alloc (Nat.le_refl _) _).trans (sets_belowH (Nat.le_refl _) _ _ _)
  rw [hm] at hzs
  have F4 := Lib.hid (hb.trans (hbm.mono hb.size))
  have b8 := b7.trans (F4.out.mono b7.size)
  have hth : (w8.alloc (.cells bootZ.toArray 48)).there w8.heap.size 0 cl4.toArray.size := by rw [show cl4.toArray.size = 12 from hlen]; exact hza.there 0 12 (by decide)
  have hsi : (Tryd.prog.info? 48).map (·.size) = some cl4.toArray.size := by rw [show cl4.toArray.size = 12 from hlen]; exact infoBootR
  have HTH := Lib.hid hth
  have HSI := Lib.hid hsi
  have HON := Lib.hid hone
  have HM4 := Lib.hid hm
  have HQ4 := Lib.hid hzs
  have HI4 := Lib.hid (show (Tryd.prog.info? 48).map (·.size) = some cl4.length from hsi)
  have HP4 := Lib.hid (T7.out.keep _ _ _ hp hbm)
  clear hm hzs hza hbm hth hsi hone hlen hp hb
  go_wp2_with (first | ((with_reducible refine store_gate 48 ?_); refine wpList_store_mid rfl 48 _ _ rfl w8.heap.size 0 cl4.toArray rfl rfl HTH.out HSI.out HON.out ?_; rw [show (w8.alloc (.cells #[.int .u64 0, .int .u64 0, .string ⟨#[]⟩, .string ⟨#[]⟩, .string ⟨#[]⟩, .string ⟨#[]⟩, .string ⟨#[]⟩, .int .u64 0, .slice none 0 0, .slice none 0 0, .string ⟨#[]⟩, .slice none 0 0] 48)).setCells w8.heap.size 0 cl4.toArray.toList = u4 from HM4.out]) | ((with_reducible refine load_gate 48 ?_); refine wpList_load_mid rfl 48 _ rfl w8.heap.size 0 rfl cl4 _ HQ4.out.range Tryd.underlying48 rfl HI4.out ?_))
  clear HTH HSI HON
  refine (H8.out cl4 u4 HP4.out).mono ?_
  rintro z w9 ⟨rfl, hb⟩
  have b9 := b8.trans (hb.mono b8.size)
  have j4 := hb
  have j3 := F4.out.trans (j4.mono F4.out.size)
  have j2 := D2.out.trans (j3.mono D2.out.size)
  have j1 := F3.out.trans (j2.mono F3.out.size)
  have i2 := F2.out.trans (j1.mono F2.out.size)
  have i1 := D1.out.trans (i2.mono D1.out.size)
  have q1 := Lib.hid (show HasCells w9 w3.heap.size cl1 48 from (i1.block _ HQ1.out.lt).trans HQ1.out)
  have q2 := Lib.hid (show HasCells w9 w5.heap.size cl2 52 from (j1.block _ HQ2.out.lt).trans HQ2.out)
  have y1 := Lib.hid (T2.out.keep _ _ _ HP1.out i1)
  have y2 := Lib.hid (T4.out.keep _ _ _ HP2.out j1)
  have B9 := Lib.hid b9
  clear hb j4 j3 j2 j1 i2 i1 b1 b2 b3 b4 b5 b6 b7 b8 b9
  by_cases hz : e1 = 0
  · skip
    subst hz
    obtain ⟨hc, _⟩ := G1.out rfl
    subst hc
    by_cases hz : e2 = 0
    · skip
      subst hz
      obtain ⟨hc, _⟩ := G2.out rfl
      subst hc
      by_cases hz : c5 = 0
      · skip
        subst hz
        obtain ⟨hc, hy⟩ := G3.out rfl
        subst hc
        subst hy
        by_cases hz : c7 = 0
        · skip
          subst hz
          obtain ⟨hc, hy⟩ := G4.out rfl
          subst hc
          subst hy
          go_wp2_with (first | ((with_reducible refine load_gate 48 ?_); refine wpList_load_midV (by rfl) 48 _ rfl w.heap.size 0 rfl cb _ (HSB.out w9 B9.out) Tryd.underlying48 rfl HIB.out ?_) | ((with_reducible refine load_gate 48 ?_); refine wpList_load_midV (by rfl) 48 _ rfl w3.heap.size 0 rfl cl1 _ q1.out.range Tryd.underlying48 rfl HI1.out ?_))
          rw [HAb.out]
          refine ((G1.out trivial).2 cl1 w9 (HWB.out.trans (B9.out.mono HWB.out.size)) y1.out).mono ?_
          rintro z w10 ⟨rfl, hb⟩
          have B10 := Lib.hid (B9.out.trans (hb.mono B9.out.size))
          have q3 := Lib.hid (show HasCells w10 w5.heap.size cl2 52 from (hb.block _ q2.out.lt).trans q2.out)
          have y3 := Lib.hid (T4.out.keep _ _ _ y2.out hb)
          clear hb
          go_wp2_with (first | ((with_reducible refine load_gate 52 ?_); refine wpList_load_midV (by rfl) 52 _ rfl (w.heap.size + 1) 0 rfl cu _ (HSU.out w10 B10.out) Tryd.underlying52 rfl HIU.out ?_) | ((with_reducible refine load_gate 52 ?_); refine wpList_load_midV (by rfl) 52 _ rfl w5.heap.size 0 rfl cl2 _ q3.out.range Tryd.underlying52 rfl HI2.out ?_))
          rw [HAu.out]
          refine ((G2.out trivial).2 cl2 w10 (HWB.out.trans (B10.out.mono HWB.out.size)) y3.out).mono ?_
          rintro z w11 ⟨rfl, hb⟩
          have B11 := Lib.hid (B10.out.trans (hb.mono B10.out.size))
          clear hb
          go_wp2_with fail
          go_ret
          exact ⟨rfl, HWB.out.trans (B11.out.mono HWB.out.size)⟩
        · skip
          have hn3 : (c7 != 0) = true := by simp [hz]
          clear hz
          go_wp2_with (first | ((with_reducible refine load_gate 48 ?_); refine wpList_load_midV (by rfl) 48 _ rfl w.heap.size 0 rfl cb _ (HSB.out w9 B9.out) Tryd.underlying48 rfl HIB.out ?_) | ((with_reducible refine load_gate 48 ?_); refine wpList_load_midV (by rfl) 48 _ rfl w3.heap.size 0 rfl cl1 _ q1.out.range Tryd.underlying48 rfl HI1.out ?_))
          rw [HAb.out]
          refine ((G1.out trivial).2 cl1 w9 (HWB.out.trans (B9.out.mono HWB.out.size)) y1.out).mono ?_
          rintro z w10 ⟨rfl, hb⟩
          have B10 := Lib.hid (B9.out.trans (hb.mono B9.out.size))
          have q3 := Lib.hid (show HasCells w10 w5.heap.size cl2 52 from (hb.block _ q2.out.lt).trans q2.out)
          have y3 := Lib.hid (T4.out.keep _ _ _ y2.out hb)
          clear hb
          go_wp2_with (first | ((with_reducible refine load_gate 52 ?_); refine wpList_load_midV (by rfl) 52 _ rfl (w.heap.size + 1) 0 rfl cu _ (HSU.out w10 B10.out) Tryd.underlying52 rfl HIU.out ?_) | ((with_reducible refine load_gate 52 ?_); refine wpList_load_midV (by rfl) 52 _ rfl w5.heap.size 0 rfl cl2 _ q3.out.range Tryd.underlying52 rfl HI2.out ?_))
          rw [HAu.out]
          refine ((G2.out trivial).2 cl2 w10 (HWB.out.trans (B10.out.mono HWB.out.size)) y3.out).mono ?_
          rintro z w11 ⟨rfl, hb⟩
          have B11 := Lib.hid (B10.out.trans (hb.mono B10.out.size))
          clear hb
          go_wp2_with fail
          go_ret
          exact ⟨rfl, HWB.out.trans (B11.out.mono HWB.out.size)⟩
      · skip
        have hn2 : (c5 != 0) = true := by simp [hz]
        clear hz
        by_cases hz : c7 = 0
        · skip
          subst hz
          obtain ⟨hc, hy⟩ := G4.out rfl
          subst hc
          subst hy
          go_wp2_with (first | ((with_reducible refine load_gate 48 ?_); refine wpList_load_midV (by rfl) 48 _ rfl w.heap.size 0 rfl cb _ (HSB.out w9 B9.out) Tryd.underlying48 rfl HIB.out ?_) | ((with_reducible refine load_gate 48 ?_); refine wpList_load_midV (by rfl) 48 _ rfl w3.heap.size 0 rfl cl1 _ q1.out.range Tryd.underlying48 rfl HI1.out ?_))
          rw [HAb.out]
          refine ((G1.out trivial).2 cl1 w9 (HWB.out.trans (B9.out.mono HWB.out.size)) y1.out).mono ?_
          rintro z w10 ⟨rfl, hb⟩
          have B10 := Lib.hid (B9.out.trans (hb.mono B9.out.size))
          have q3 := Lib.hid (show HasCells w10 w5.heap.size cl2 52 from (hb.block _ q2.out.lt).trans q2.out)
          have y3 := Lib.hid (T4.out.keep _ _ _ y2.out hb)
          clear hb
          go_wp2_with (first | ((with_reducible refine load_gate 52 ?_); refine wpList_load_midV (by rfl) 52 _ rfl (w.heap.size + 1) 0 rfl cu _ (HSU.out w10 B10.out) Tryd.underlying52 rfl HIU.out ?_) | ((with_reducible refine load_gate 52 ?_); refine wpList_load_midV (by rfl) 52 _ rfl w5.heap.size 0 rfl cl2 _ q3.out.range Tryd.underlying52 rfl HI2.out ?_))
          rw [HAu.out]
          refine ((G2.out trivial).2 cl2 w10 (HWB.out.trans (B10.out.mono HWB.out.size)) y3.out).mono ?_
          rintro z w11 ⟨rfl, hb⟩
          have B11 := Lib.hid (B10.out.trans (hb.mono B10.out.size))
          clear hb
          go_wp2_with fail
          go_ret
          exact ⟨rfl, HWB.out.trans (B11.out.mono HWB.out.size)⟩
        · skip
          have hn3 : (c7 != 0) = true := by simp [hz]
          clear hz
          go_wp2_with (first | ((with_reducible refine load_gate 48 ?_); refine wpList_load_midV (by rfl) 48 _ rfl w.heap.size 0 rfl cb _ (HSB.out w9 B9.out) Tryd.underlying48 rfl HIB.out ?_) | ((with_reducible refine load_gate 48 ?_); refine wpList_load_midV (by rfl) 48 _ rfl w3.heap.size 0 rfl cl1 _ q1.out.range Tryd.underlying48 rfl HI1.out ?_))
          rw [HAb.out]
          refine ((G1.out trivial).2 cl1 w9 (HWB.out.trans (B9.out.mono HWB.out.size)) y1.out).mono ?_
          rintro z w10 ⟨rfl, hb⟩
          have B10 := Lib.hid (B9.out.trans (hb.mono B9.out.size))
          have q3 := Lib.hid (show HasCells w10 w5.heap.size cl2 52 from (hb.block _ q2.out.lt).trans q2.out)
          have y3 := Lib.hid (T4.out.keep _ _ _ y2.out hb)
          clear hb
          go_wp2_with (first | ((with_reducible refine load_gate 52 ?_); refine wpList_load_midV (by rfl) 52 _ rfl (w.heap.size + 1) 0 rfl cu _ (HSU.out w10 B10.out) Tryd.underlying52 rfl HIU.out ?_) | ((with_reducible refine load_gate 52 ?_); refine wpList_load_midV (by rfl) 52 _ rfl w5.heap.size 0 rfl cl2 _ q3.out.range Tryd.underlying52 rfl HI2.out ?_))
          rw [HAu.out]
          refine ((G2.out trivial).2 cl2 w10 (HWB.out.trans (B10.out.mono HWB.out.size)) y3.out).mono ?_
          rintro z w11 ⟨rfl, hb⟩
          have B11 := Lib.hid (B10.out.trans (hb.mono B10.out.size))
          clear hb
          go_wp2_with fail
          go_ret
          exact ⟨rfl, HWB.out.trans (B11.out.mono HWB.out.size)⟩
    · skip
      have hn1 : (e2 != 0) = true := by simp [hz]
      clear hz
      by_cases hz : c5 = 0
      · skip
        subst hz
        obtain ⟨hc, hy⟩ := G3.out rfl
        subst hc
        subst hy
        by_cases hz : c7 = 0
        · skip
          subst hz
          obtain ⟨hc, hy⟩ := G4.out rfl
          subst hc
          subst hy
          go_wp2_with (first | ((with_reducible refine load_gate 48 ?_); refine wpList_load_midV (by rfl) 48 _ rfl w.heap.size 0 rfl cb _ (HSB.out w9 B9.out) Tryd.underlying48 rfl HIB.out ?_) | ((with_reducible refine load_gate 48 ?_); refine wpList_load_midV (by rfl) 48 _ rfl w3.heap.size 0 rfl cl1 _ q1.out.range Tryd.underlying48 rfl HI1.out ?_))
          rw [HAb.out]
          refine ((G1.out trivial).2 cl1 w9 (HWB.out.trans (B9.out.mono HWB.out.size)) y1.out).mono ?_
          rintro z w10 ⟨rfl, hb⟩
          have B10 := Lib.hid (B9.out.trans (hb.mono B9.out.size))
          have q3 := Lib.hid (show HasCells w10 w5.heap.size cl2 52 from (hb.block _ q2.out.lt).trans q2.out)
          have y3 := Lib.hid (T4.out.keep _ _ _ y2.out hb)
          clear hb
          go_wp2_with fail
          go_ret
          exact ⟨rfl, HWB.out.trans (B10.out.mono HWB.out.size)⟩
        · skip
          have hn3 : (c7 != 0) = true := by simp [hz]
          clear hz
          go_wp2_with (first | ((with_reducible refine load_gate 48 ?_); refine wpList_load_midV (by rfl) 48 _ rfl w.heap.size 0 rfl cb _ (HSB.out w9 B9.out) Tryd.underlying48 rfl HIB.out ?_) | ((with_reducible refine load_gate 48 ?_); refine wpList_load_midV (by rfl) 48 _ rfl w3.heap.size 0 rfl cl1 _ q1.out.range Tryd.underlying48 rfl HI1.out ?_))
          rw [HAb.out]
          refine ((G1.out trivial).2 cl1 w9 (HWB.out.trans (B9.out.mono HWB.out.size)) y1.out).mono ?_
          rintro z w10 ⟨rfl, hb⟩
          have B10 := Lib.hid (B9.out.trans (hb.mono B9.out.size))
          have q3 := Lib.hid (show HasCells w10 w5.heap.size cl2 52 from (hb.block _ q2.out.lt).trans q2.out)
          have y3 := Lib.hid (T4.out.keep _ _ _ y2.out hb)
          clear hb
          go_wp2_with fail
          go_ret
          exact ⟨rfl, HWB.out.trans (B10.out.mono HWB.out.size)⟩
      · skip
        have hn2 : (c5 != 0) = true := by simp [hz]
        clear hz
        by_cases hz : c7 = 0
        · skip
          subst hz
          obtain ⟨hc, hy⟩ := G4.out rfl
          subst hc
          subst hy
          go_wp2_with (first | ((with_reducible refine load_gate 48 ?_); refine wpList_load_midV (by rfl) 48 _ rfl w.heap.size 0 rfl cb _ (HSB.out w9 B9.out) Tryd.underlying48 rfl HIB.out ?_) | ((with_reducible refine load_gate 48 ?_); refine wpList_load_midV (by rfl) 48 _ rfl w3.heap.size 0 rfl cl1 _ q1.out.range Tryd.underlying48 rfl HI1.out ?_))
          rw [HAb.out]
          refine ((G1.out trivial).2 cl1 w9 (HWB.out.trans (B9.out.mono HWB.out.size)) y1.out).mono ?_
          rintro z w10 ⟨rfl, hb⟩
          have B10 := Lib.hid (B9.out.trans (hb.mono B9.out.size))
          have q3 := Lib.hid (show HasCells w10 w5.heap.size cl2 52 from (hb.block _ q2.out.lt).trans q2.out)
          have y3 := Lib.hid (T4.out.keep _ _ _ y2.out hb)
          clear hb
          go_wp2_with fail
          go_ret
          exact ⟨rfl, HWB.out.trans (B10.out.mono HWB.out.size)⟩
        · skip
          have hn3 : (c7 != 0) = true := by simp [hz]
          clear hz
          go_wp2_with (first | ((with_reducible refine load_gate 48 ?_); refine wpList_load_midV (by rfl) 48 _ rfl w.heap.size 0 rfl cb _ (HSB.out w9 B9.out) Tryd.underlying48 rfl HIB.out ?_) | ((with_reducible refine load_gate 48 ?_); refine wpList_load_midV (by rfl) 48 _ rfl w3.heap.size 0 rfl cl1 _ q1.out.range Tryd.underlying48 rfl HI1.out ?_))
          rw [HAb.out]
          refine ((G1.out trivial).2 cl1 w9 (HWB.out.trans (B9.out.mono HWB.out.size)) y1.out).mono ?_
          rintro z w10 ⟨rfl, hb⟩
          have B10 := Lib.hid (B9.out.trans (hb.mono B9.out.size))
          have q3 := Lib.hid (show HasCells w10 w5.heap.size cl2 52 from (hb.block _ q2.out.lt).trans q2.out)
          have y3 := Lib.hid (T4.out.keep _ _ _ y2.out hb)
          clear hb
          go_wp2_with fail
          go_ret
          exact ⟨rfl, HWB.out.trans (B10.out.mono HWB.out.size)⟩
  · skip
    have hn0 : (e1 != 0) = true := by simp [hz]
    clear hz
    by_cases hz : e2 = 0
    · skip
      subst hz
      obtain ⟨hc, _⟩ := G2.out rfl
      subst hc
      by_cases hz : c5 = 0
      · skip
        subst hz
        obtain ⟨hc, hy⟩ := G3.out rfl
        subst hc
        subst hy
        by_cases hz : c7 = 0
        · skip
          subst hz
          obtain ⟨hc, hy⟩ := G4.out rfl
          subst hc
          subst hy
          go_wp2_with (first | ((with_reducible refine load_gate 52 ?_); refine wpList_load_midV (by rfl) 52 _ rfl (w.heap.size + 1) 0 rfl cu _ (HSU.out w9 B9.out) Tryd.underlying52 rfl HIU.out ?_) | ((with_reducible refine load_gate 52 ?_); refine wpList_load_midV (by rfl) 52 _ rfl w5.heap.size 0 rfl cl2 _ q2.out.range Tryd.underlying52 rfl HI2.out ?_))
          rw [HAu.out]
          refine ((G2.out trivial).2 cl2 w9 (HWB.out.trans (B9.out.mono HWB.out.size)) y2.out).mono ?_
          rintro z w11 ⟨rfl, hb⟩
          have B11 := Lib.hid (B9.out.trans (hb.mono B9.out.size))
          clear hb
          go_wp2_with fail
          go_ret
          exact ⟨rfl, HWB.out.trans (B11.out.mono HWB.out.size)⟩
        · skip
          have hn3 : (c7 != 0) = true := by simp [hz]
          clear hz
          go_wp2_with (first | ((with_reducible refine load_gate 52 ?_); refine wpList_load_midV (by rfl) 52 _ rfl (w.heap.size + 1) 0 rfl cu _ (HSU.out w9 B9.out) Tryd.underlying52 rfl HIU.out ?_) | ((with_reducible refine load_gate 52 ?_); refine wpList_load_midV (by rfl) 52 _ rfl w5.heap.size 0 rfl cl2 _ q2.out.range Tryd.underlying52 rfl HI2.out ?_))
          rw [HAu.out]
          refine ((G2.out trivial).2 cl2 w9 (HWB.out.trans (B9.out.mono HWB.out.size)) y2.out).mono ?_
          rintro z w11 ⟨rfl, hb⟩
          have B11 := Lib.hid (B9.out.trans (hb.mono B9.out.size))
          clear hb
          go_wp2_with fail
          go_ret
          exact ⟨rfl, HWB.out.trans (B11.out.mono HWB.out.size)⟩
      · skip
        have hn2 : (c5 != 0) = true := by simp [hz]
        clear hz
        by_cases hz : c7 = 0
        · skip
          subst hz
          obtain ⟨hc, hy⟩ := G4.out rfl
          subst hc
          subst hy
          go_wp2_with (first | ((with_reducible refine load_gate 52 ?_); refine wpList_load_midV (by rfl) 52 _ rfl (w.heap.size + 1) 0 rfl cu _ (HSU.out w9 B9.out) Tryd.underlying52 rfl HIU.out ?_) | ((with_reducible refine load_gate 52 ?_); refine wpList_load_midV (by rfl) 52 _ rfl w5.heap.size 0 rfl cl2 _ q2.out.range Tryd.underlying52 rfl HI2.out ?_))
          rw [HAu.out]
          refine ((G2.out trivial).2 cl2 w9 (HWB.out.trans (B9.out.mono HWB.out.size)) y2.out).mono ?_
          rintro z w11 ⟨rfl, hb⟩
          have B11 := Lib.hid (B9.out.trans (hb.mono B9.out.size))
          clear hb
          go_wp2_with fail
          go_ret
          exact ⟨rfl, HWB.out.trans (B11.out.mono HWB.out.size)⟩
        · skip
          have hn3 : (c7 != 0) = true := by simp [hz]
          clear hz
          go_wp2_with (first | ((with_reducible refine load_gate 52 ?_); refine wpList_load_midV (by rfl) 52 _ rfl (w.heap.size + 1) 0 rfl cu _ (HSU.out w9 B9.out) Tryd.underlying52 rfl HIU.out ?_) | ((with_reducible refine load_gate 52 ?_); refine wpList_load_midV (by rfl) 52 _ rfl w5.heap.size 0 rfl cl2 _ q2.out.range Tryd.underlying52 rfl HI2.out ?_))
          rw [HAu.out]
          refine ((G2.out trivial).2 cl2 w9 (HWB.out.trans (B9.out.mono HWB.out.size)) y2.out).mono ?_
          rintro z w11 ⟨rfl, hb⟩
          have B11 := Lib.hid (B9.out.trans (hb.mono B9.out.size))
          clear hb
          go_wp2_with fail
          go_ret
          exact ⟨rfl, HWB.out.trans (B11.out.mono HWB.out.size)⟩
    · skip
      have hn1 : (e2 != 0) = true := by simp [hz]
      clear hz
      by_cases hz : c5 = 0
      · skip
        subst hz
        obtain ⟨hc, hy⟩ := G3.out rfl
        subst hc
        subst hy
        by_cases hz : c7 = 0
        · skip
          subst hz
          obtain ⟨hc, hy⟩ := G4.out rfl
          subst hc
          subst hy
          go_wp2_with fail
          go_ret
          exact ⟨rfl, HWB.out.trans (B9.out.mono HWB.out.size)⟩
        · skip
          have hn3 : (c7 != 0) = true := by simp [hz]
          clear hz
          go_wp2_with fail
          go_ret
          exact ⟨rfl, HWB.out.trans (B9.out.mono HWB.out.size)⟩
      · skip
        have hn2 : (c5 != 0) = true := by simp [hz]
        clear hz
        by_cases hz : c7 = 0
        · skip
          subst hz
          obtain ⟨hc, hy⟩ := G4.out rfl
          subst hc
          subst hy
          go_wp2_with fail
          go_ret
          exact ⟨rfl, HWB.out.trans (B9.out.mono HWB.out.size)⟩
        · skip
          have hn3 : (c7 != 0) = true := by simp [hz]
          clear hz
          go_wp2_with fail
          go_ret
          exact ⟨rfl, HWB.out.trans (B9.out.mono HWB.out.size)⟩
theorem numV_lt (x : Item) : numV x < 18446744073709551616 := by
  unfold numV value
  split
  · decide
  · rename_i h
    exact val_lt64 (by omega)
theorem txsLen (l : List Item) : (txsL l).length ≤ l.length := by
  induction l with
  | nil => exact Nat.le_refl _
  | cons x r ih =>
    rw [txsL]
    split
    · simp
    · simp only [List.length_cons]; omega
theorem tsLen {x : Item} {N : Nat} (h : x.size ≤ N) : (tsL x).length ≤ N := by
  unfold tsL
  have h1 := txsLen (opnL x (-1))
  have h2 : (opnL x (-1)).length ≤ x.list.length := by
    unfold opnL
    cases opnB x (-1) with
    | true => simp
    | false => exact Nat.le_refl _
  have := x.len_size
  omega
theorem bootCE (X : Item) (V0 V1 V2 : Value) : bootC X V0 V1 V2 = [.int .u64 (numV (lh (bootI X 0) 0)), .int .u64 (numV (lh (bootI X 0) 1)), .string (txtB (lh (bootI X 0) 2)), .string (txtB (lh (bootI X 0) 3)), .string (txtB (lh (bootI X 0) 4)), .string (txtB (ly (bootI X 0) 0)), .string (txtB (ly (bootI X 0) 1)), .int .u64 (numV (ly (bootI X 0) 2)), V0, V1, .string (txtB (ci (bootI X 1) 1)), V2] := by
  unfold bootC
  simp only [lightC, commC, List.cons_append, List.nil_append]
/-- what is read of bytes -/
def bootG (X : Item) (ce : Int) (cl : List Value) (W : World) : Prop := ∃ (p0 p1 p2 : Option Addr) (c0 c1 c2 : Nat), cl = sel (bootBad X ce) bootZ (bootC X (.slice p0 (tsL (li (bootI X 0) 2)).length c0) (.slice p1 (tsL (ci (bootI X 1) 0)).length c1) (.slice p2 (tsL (bootI X 2)).length c2)) ∧ Strs W (.slice p0 (tsL (li (bootI X 0) 2)).length c0) (tsL (li (bootI X 0) 2)) ∧ Strs W (.slice p1 (tsL (ci (bootI X 1) 0)).length c1) (tsL (ci (bootI X 1) 0)) ∧ Strs W (.slice p2 (tsL (bootI X 2)).length c2) (tsL (bootI X 2))
theorem bootG_shape (X : Item) (ce : Int) : ShapeP (bootG X ce) 12 := by
  refine ⟨fun cl W h => ?_, fun cl W h => ?_, fun cl W W' h hb => ?_⟩
  · obtain ⟨p0, p1, p2, c0, c1, c2, rfl, h0, h1, h2⟩ := h
    rw [bootCE]
    cases bootBad X ce <;> rfl
  · obtain ⟨p0, p1, p2, c0, c1, c2, rfl, h0, h1, h2⟩ := h
    rw [bootCE]
    cases bootBad X ce with
    | true =>
      refine all_oneCell_toArray (fun v hv => ?_)
      unfold sel bootZ at hv
      simp only [cond_true, List.mem_cons, List.not_mem_nil, or_false] at hv
      rcases hv with rfl | rfl | rfl | rfl | rfl | rfl | rfl | rfl | rfl | rfl | rfl | rfl <;> rfl
    | false =>
      refine all_oneCell_toArray (fun v hv => ?_)
      unfold sel at hv
      simp only [cond_false, List.mem_cons, List.not_mem_nil, or_false] at hv
      rcases hv with rfl | rfl | rfl | rfl | rfl | rfl | rfl | rfl | rfl | rfl | rfl | rfl <;> rfl
  · obtain ⟨p0, p1, p2, c0, c1, c2, e, h0, h1, h2⟩ := h
    exact ⟨p0, p1, p2, c0, c1, c2, e, h0.below hb, h1.below hb, h2.below hb⟩
theorem bootG_gives (l : List UInt8) (hl : l.length ≤ 1099511627776) : GivesP 23 ⟨l.toArray⟩ (bootG (decode l).1 (decode l).2) (sel (bootBad (decode l).1 (decode l).2) 130 0) := by
  intro W
  refine (bootFrom_any l W hl).mono ?_
  rintro e w' ⟨p0, p1, p2, c0, c1, c2, rfl, hw, h0, h1, h2⟩
  exact ⟨_, rfl, ⟨p0, p1, p2, c0, c1, c2, rfl, h0, h1, h2⟩, hw⟩
/-- what is read is written as the item that it was read from -/
theorem bootG_writes (l : List UInt8) : ∃ t c, WritesP 29 (bootG (decode l).1 (decode l).2) t c ∧ (sel (bootBad (decode l).1 (decode l).2) (130 : Int) 0 = 0 → c = 0 ∧ t = ⟨l.toArray⟩) := by
  have hz := decode_size l
  obtain ⟨X, hX⟩ : ∃ X, (decode l).1 = X := ⟨_, rfl⟩
  obtain ⟨ce, hC⟩ : ∃ C, (decode l).2 = C := ⟨_, rfl⟩
  rw [hX] at hz
  rw [hX, hC]
  have hi : ∀ i, (bootI X i).size ≤ 65537 := fun i => getD_size (by omega) (fun _ hy => opnL_size hz (by omega) hy)
  cases hb : bootBad X ce with
  | true =>
    refine ⟨⟨(encode (itL (bootItems 0 0 ⟨#[]⟩ ⟨#[]⟩ ⟨#[]⟩ ⟨#[]⟩ ⟨#[]⟩ 0 [] [] ⟨#[]⟩ []))).1.toArray⟩, (encode (itL (bootItems 0 0 ⟨#[]⟩ ⟨#[]⟩ ⟨#[]⟩ ⟨#[]⟩ ⟨#[]⟩ 0 [] [] ⟨#[]⟩ []))).2, fun cl W h => ?_, fun h => by cases h⟩
    obtain ⟨p0, p1, p2, c0, c1, c2, rfl, h0, h1, h2⟩ := h
    rw [hb]
    have h := itBoot_any 0 0 ⟨#[]⟩ ⟨#[]⟩ ⟨#[]⟩ ⟨#[]⟩ ⟨#[]⟩ 0 none 0 0 [] none 0 0 [] ⟨#[]⟩ none 0 0 [] W (by omega) (by omega) (by omega) ⟨none, 0, rfl, Nat.le_refl _, .inl rfl⟩ (Nat.zero_le _) ⟨none, 0, rfl, Nat.le_refl _, .inl rfl⟩ (Nat.zero_le _) ⟨none, 0, rfl, Nat.le_refl _, .inl rfl⟩ (Nat.zero_le _) (by decide)
    unfold encodeV at h
    exact h
  | false =>
    have hce : ce = 0 := by
      unfold bootBad at hb
      simp only [Bool.or_eq_false_iff] at hb
      have h1 : decide (ce ≠ 0) = false := hb.1.1.1.2
      simpa using h1
    have hdec : decode l = (X, 0) := by rw [← hX, ← hce, ← hC]
    have henc := encode_decode hdec
    obtain ⟨hp, hw, _, hlen⟩ := encode_ok henc
    obtain ⟨_, hrev⟩ := boot_rev X ce hw hb
    have hwt := weight_put X hw
    rw [← hp] at hwt
    refine ⟨⟨l.toArray⟩, 0, fun cl W h => ?_, fun _ => ⟨rfl, rfl⟩⟩
    obtain ⟨p0, p1, p2, c0, c1, c2, rfl, h0, h1, h2⟩ := h
    rw [hb, bootCE]
    have h := itBoot_any (numV (lh (bootI X 0) 0)) (numV (lh (bootI X 0) 1)) (txtB (lh (bootI X 0) 2)) (txtB (lh (bootI X 0) 3)) (txtB (lh (bootI X 0) 4)) (txtB (ly (bootI X 0) 0)) (txtB (ly (bootI X 0) 1)) (numV (ly (bootI X 0) 2)) p0 (tsL (li (bootI X 0) 2)).length c0 (tsL (li (bootI X 0) 2)) p1 (tsL (ci (bootI X 1) 0)).length c1 (tsL (ci (bootI X 1) 0)) (txtB (ci (bootI X 1) 1)) p2 (tsL (bootI X 2)).length c2 (tsL (bootI X 2)) W (numV_lt _) (numV_lt _) (numV_lt _) h0 (by have := tsLen (li_size (i := 2) (hi 0) (by omega)); omega) h1 (by have := tsLen (ci_size (i := 0) (hi 1) (by omega)); omega) h2 (by have := tsLen (hi 2); omega) (by rw [← hrev]; omega)
    unfold encodeV at h
    rw [← hrev, henc] at h
    exact h
theorem updCE (X : Item) (V0 V1 V2 V3 V4 : Value) : updC X V0 V1 V2 V3 V4 = [.int .u64 (numV (lh (updI X 0) 0)), .int .u64 (numV (lh (updI X 0) 1)), .string (txtB (lh (updI X 0) 2)), .string (txtB (lh (updI X 0) 3)), .string (txtB (lh (updI X 0) 4)), .string (txtB (ly (updI X 0) 0)), .string (txtB (ly (updI X 0) 1)), .int .u64 (numV (ly (updI X 0) 2)), V0, V1, .string (txtB (ci (updI X 1) 1)), V2, .int .u64 (numV (lh (updI X 3) 0)), .int .u64 (numV (lh (updI X 3) 1)), .string (txtB (lh (updI X 3) 2)), .string (txtB (lh (updI X 3) 3)), .string (txtB (lh (updI X 3) 4)), .string (txtB (ly (updI X 3) 0)), .string (txtB (ly (updI X 3) 1)), .int .u64 (numV (ly (updI X 3) 2)), V3, V4, .int .u64 (numV (updI X 5)), .string (txtB (updI X 6)), .int .u64 (numV (updI X 7))] := by
  unfold updC
  simp only [lightC, commC, List.cons_append, List.nil_append]
/-- what is read of bytes -/
def updG (X : Item) (ce : Int) (cl : List Value) (W : World) : Prop := ∃ (p0 p1 p2 p3 p4 : Option Addr) (c0 c1 c2 c3 c4 : Nat), cl = sel (updBad X ce) updZ (updC X (.slice p0 (tsL (li (updI X 0) 2)).length c0) (.slice p1 (tsL (ci (updI X 1) 0)).length c1) (.slice p2 (tsL (updI X 2)).length c2) (.slice p3 (tsL (li (updI X 3) 2)).length c3) (.slice p4 (tsL (updI X 4)).length c4)) ∧ Strs W (.slice p0 (tsL (li (updI X 0) 2)).length c0) (tsL (li (updI X 0) 2)) ∧ Strs W (.slice p1 (tsL (ci (updI X 1) 0)).length c1) (tsL (ci (updI X 1) 0)) ∧ Strs W (.slice p2 (tsL (updI X 2)).length c2) (tsL (updI X 2)) ∧ Strs W (.slice p3 (tsL (li (updI X 3) 2)).length c3) (tsL (li (updI X 3) 2)) ∧ Strs W (.slice p4 (tsL (updI X 4)).length c4) (tsL (updI X 4))
theorem updG_shape (X : Item) (ce : Int) : ShapeP (updG X ce) 25 := by
  refine ⟨fun cl W h => ?_, fun cl W h => ?_, fun cl W W' h hb => ?_⟩
  · obtain ⟨p0, p1, p2, p3, p4, c0, c1, c2, c3, c4, rfl, h0, h1, h2, h3, h4⟩ := h
    rw [updCE]
    cases updBad X ce <;> rfl
  · obtain ⟨p0, p1, p2, p3, p4, c0, c1, c2, c3, c4, rfl, h0, h1, h2, h3, h4⟩ := h
    rw [updCE]
    cases updBad X ce with
    | true =>
      refine all_oneCell_toArray (fun v hv => ?_)
      unfold sel updZ at hv
      simp only [cond_true, List.mem_cons, List.not_mem_nil, or_false] at hv
      rcases hv with rfl | rfl | rfl | rfl | rfl | rfl | rfl | rfl | rfl | rfl | rfl | rfl | rfl | rfl | rfl | rfl | rfl | rfl | rfl | rfl | rfl | rfl | rfl | rfl | rfl <;> rfl
    | false =>
      refine all_oneCell_toArray (fun v hv => ?_)
      unfold sel at hv
      simp only [cond_false, List.mem_cons, List.not_mem_nil, or_false] at hv
      rcases hv with rfl | rfl | rfl | rfl | rfl | rfl | rfl | rfl | rfl | rfl | rfl | rfl | rfl | rfl | rfl | rfl | rfl | rfl | rfl | rfl | rfl | rfl | rfl | rfl | rfl <;> rfl
  · obtain ⟨p0, p1, p2, p3, p4, c0, c1, c2, c3, c4, e, h0, h1, h2, h3, h4⟩ := h
    exact ⟨p0, p1, p2, p3, p4, c0, c1, c2, c3, c4, e, h0.below hb, h1.below hb, h2.below hb, h3.below hb, h4.below hb⟩
theorem updG_gives (l : List UInt8) (hl : l.length ≤ 1099511627776) : GivesP 25 ⟨l.toArray⟩ (updG (decode l).1 (decode l).2) (sel (updBad (decode l).1 (decode l).2) 130 0) := by
  intro W
  refine (updFrom_any l W hl).mono ?_
  rintro e w' ⟨p0, p1, p2, p3, p4, c0, c1, c2, c3, c4, rfl, hw, h0, h1, h2, h3, h4⟩
  exact ⟨_, rfl, ⟨p0, p1, p2, p3, p4, c0, c1, c2, c3, c4, rfl, h0, h1, h2, h3, h4⟩, hw⟩
/-- what is read is written as the item that it was read from -/
theorem updG_writes (l : List UInt8) : ∃ t c, WritesP 31 (updG (decode l).1 (decode l).2) t c ∧ (sel (updBad (decode l).1 (decode l).2) (130 : Int) 0 = 0 → c = 0 ∧ t = ⟨l.toArray⟩) := by
  have hz := decode_size l
  obtain ⟨X, hX⟩ : ∃ X, (decode l).1 = X := ⟨_, rfl⟩
  obtain ⟨ce, hC⟩ : ∃ C, (decode l).2 = C := ⟨_, rfl⟩
  rw [hX] at hz
  rw [hX, hC]
  have hi : ∀ i, (updI X i).size ≤ 65537 := fun i => getD_size (by omega) (fun _ hy => opnL_size hz (by omega) hy)
  cases hb : updBad X ce with
  | true =>
    refine ⟨⟨(encode (itL (updItems 0 0 ⟨#[]⟩ ⟨#[]⟩ ⟨#[]⟩ ⟨#[]⟩ ⟨#[]⟩ 0 [] [] ⟨#[]⟩ [] 0 0 ⟨#[]⟩ ⟨#[]⟩ ⟨#[]⟩ ⟨#[]⟩ ⟨#[]⟩ 0 [] [] 0 ⟨#[]⟩ 0))).1.toArray⟩, (encode (itL (updItems 0 0 ⟨#[]⟩ ⟨#[]⟩ ⟨#[]⟩ ⟨#[]⟩ ⟨#[]⟩ 0 [] [] ⟨#[]⟩ [] 0 0 ⟨#[]⟩ ⟨#[]⟩ ⟨#[]⟩ ⟨#[]⟩ ⟨#[]⟩ 0 [] [] 0 ⟨#[]⟩ 0))).2, fun cl W h => ?_, fun h => by cases h⟩
    obtain ⟨p0, p1, p2, p3, p4, c0, c1, c2, c3, c4, rfl, h0, h1, h2, h3, h4⟩ := h
    rw [hb]
    have h := itUpd_any 0 0 ⟨#[]⟩ ⟨#[]⟩ ⟨#[]⟩ ⟨#[]⟩ ⟨#[]⟩ 0 none 0 0 [] none 0 0 [] ⟨#[]⟩ none 0 0 [] 0 0 ⟨#[]⟩ ⟨#[]⟩ ⟨#[]⟩ ⟨#[]⟩ ⟨#[]⟩ 0 none 0 0 [] none 0 0 [] 0 ⟨#[]⟩ 0 W (by omega) (by omega) (by omega) ⟨none, 0, rfl, Nat.le_refl _, .inl rfl⟩ (Nat.zero_le _) ⟨none, 0, rfl, Nat.le_refl _, .inl rfl⟩ (Nat.zero_le _) ⟨none, 0, rfl, Nat.le_refl _, .inl rfl⟩ (Nat.zero_le _) (by omega) (by omega) (by omega) ⟨none, 0, rfl, Nat.le_refl _, .inl rfl⟩ (Nat.zero_le _) ⟨none, 0, rfl, Nat.le_refl _, .inl rfl⟩ (Nat.zero_le _) (by omega)  (by omega) (by decide)
    unfold encodeV at h
    exact h
  | false =>
    have hce : ce = 0 := by
      unfold updBad at hb
      simp only [Bool.or_eq_false_iff] at hb
      have h1 : decide (ce ≠ 0) = false := hb.1.1.1.1.1.1.1.1.2
      simpa using h1
    have hdec : decode l = (X, 0) := by rw [← hX, ← hce, ← hC]
    have henc := encode_decode hdec
    obtain ⟨hp, hw, _, hlen⟩ := encode_ok henc
    obtain ⟨_, hrev⟩ := upd_rev X ce hw hb
    have hwt := weight_put X hw
    rw [← hp] at hwt
    refine ⟨⟨l.toArray⟩, 0, fun cl W h => ?_, fun _ => ⟨rfl, rfl⟩⟩
    obtain ⟨p0, p1, p2, p3, p4, c0, c1, c2, c3, c4, rfl, h0, h1, h2, h3, h4⟩ := h
    rw [hb, updCE]
    have h := itUpd_any (numV (lh (updI X 0) 0)) (numV (lh (updI X 0) 1)) (txtB (lh (updI X 0) 2)) (txtB (lh (updI X 0) 3)) (txtB (lh (updI X 0) 4)) (txtB (ly (updI X 0) 0)) (txtB (ly (updI X 0) 1)) (numV (ly (updI X 0) 2)) p0 (tsL (li (updI X 0) 2)).length c0 (tsL (li (updI X 0) 2)) p1 (tsL (ci (updI X 1) 0)).length c1 (tsL (ci (updI X 1) 0)) (txtB (ci (updI X 1) 1)) p2 (tsL (updI X 2)).length c2 (tsL (updI X 2)) (numV (lh (updI X 3) 0)) (numV (lh (updI X 3) 1)) (txtB (lh (updI X 3) 2)) (txtB (lh (updI X 3) 3)) (txtB (lh (updI X 3) 4)) (txtB (ly (updI X 3) 0)) (txtB (ly (updI X 3) 1)) (numV (ly (updI X 3) 2)) p3 (tsL (li (updI X 3) 2)).length c3 (tsL (li (updI X 3) 2)) p4 (tsL (updI X 4)).length c4 (tsL (updI X 4)) (numV (updI X 5)) (txtB (updI X 6)) (numV (updI X 7)) W (numV_lt _) (numV_lt _) (numV_lt _) h0 (by have := tsLen (li_size (i := 2) (hi 0) (by omega)); omega) h1 (by have := tsLen (ci_size (i := 0) (hi 1) (by omega)); omega) h2 (by have := tsLen (hi 2); omega) (numV_lt _) (numV_lt _) (numV_lt _) h3 (by have := tsLen (li_size (i := 2) (hi 3) (by omega)); omega) h4 (by have := tsLen (hi 4); omega) (numV_lt _)  (numV_lt _) (by rw [← hrev]; omega)
    unfold encodeV at h
    rw [← hrev, henc] at h
    exact h
theorem headBack_any (nb0 mb0 : Nat) (ab0 bb0 cb0 db0 eb0 : ByteArray) (kb0 : Nat) (Vb0 : Value) (brb0 : List ByteArray) (Vb1 : Value) (brb1 : List ByteArray) (sb1 : ByteArray) (Vb2 : Value) (brb2 : List ByteArray) (nu0 mu0 : Nat) (au0 bu0 cu0 du0 eu0 : ByteArray) (ku0 : Nat) (Vu0 : Value) (bru0 : List ByteArray) (Vu1 : Value) (bru1 : List ByteArray) (su1 : ByteArray) (Vu2 : Value) (bru2 : List ByteArray) (nu3 mu3 : Nat) (au3 bu3 cu3 du3 eu3 : ByteArray) (ku3 : Nat) (Vu3 : Value) (bru3 : List ByteArray) (Vu4 : Value) (bru4 : List ByteArray) (nu5 : Nat) (su6 : ByteArray) (nu7 : Nat) (s : ByteArray) (w : World) (hs : s.size ≤ 1048576) (hnb0 : nb0 < 18446744073709551616) (hmb0 : mb0 < 18446744073709551616) (hkb0 : kb0 < 18446744073709551616) (hvb0 : Strs w Vb0 brb0) (hvb1 : Strs w Vb1 brb1) (hvb2 : Strs w Vb2 brb2) (hwB : (ab0.size + bb0.size + cb0.size + (db0.size + eb0.size) + weightS brb0) + (weightS brb1 + sb1.size) + weightS brb2 ≤ 1048576) (hnu0 : nu0 < 18446744073709551616) (hmu0 : mu0 < 18446744073709551616) (hku0 : ku0 < 18446744073709551616) (hvu0 : Strs w Vu0 bru0) (hvu1 : Strs w Vu1 bru1) (hvu2 : Strs w Vu2 bru2) (hnu3 : nu3 < 18446744073709551616) (hmu3 : mu3 < 18446744073709551616) (hku3 : ku3 < 18446744073709551616) (hvu3 : Strs w Vu3 bru3) (hvu4 : Strs w Vu4 bru4) (hnu5 : nu5 < 18446744073709551616) (hnu7 : nu7 < 18446744073709551616) (hwU : (au0.size + bu0.size + cu0.size + (du0.size + eu0.size) + weightS bru0) + (weightS bru1 + su1.size) + weightS bru2 + (au3.size + bu3.size + cu3.size + (du3.size + eu3.size) + weightS bru3) + weightS bru4 + 0 + su6.size + 0 ≤ 1048576) (hK : KTab w) :
    Calls Tryd.prog 8 #[.agg #[.int .u64 nb0, .int .u64 mb0, .string ab0, .string bb0, .string cb0, .string db0, .string eb0, .int .u64 kb0, Vb0, Vb1, .string sb1, Vb2], .agg #[.int .u64 nu0, .int .u64 mu0, .string au0, .string bu0, .string cu0, .string du0, .string eu0, .int .u64 ku0, Vu0, Vu1, .string su1, Vu2, .int .u64 nu3, .int .u64 mu3, .string au3, .string bu3, .string cu3, .string du3, .string eu3, .int .u64 ku3, Vu3, Vu4, .int .u64 nu5, .string su6, .int .u64 nu7], .string s] w fun x w' => x = .returned (.bool true) ∧ Below w.heap.size w w' := by
  have hWb0 := hvb0
  have hNb0 : brb0.length ≤ 1048576 := by have := weightS_len brb0; omega
  have hWb1 := hvb1
  have hNb1 : brb1.length ≤ 1048576 := by have := weightS_len brb1; omega
  have hWb2 := hvb2
  have hNb2 : brb2.length ≤ 1048576 := by have := weightS_len brb2; omega
  have hWu0 := hvu0
  have hNu0 : bru0.length ≤ 1048576 := by have := weightS_len bru0; omega
  have hWu1 := hvu1
  have hNu1 : bru1.length ≤ 1048576 := by have := weightS_len bru1; omega
  have hWu2 := hvu2
  have hNu2 : bru2.length ≤ 1048576 := by have := weightS_len bru2; omega
  have hWu3 := hvu3
  have hNu3 : bru3.length ≤ 1048576 := by have := weightS_len bru3; omega
  have hWu4 := hvu4
  have hNu4 : bru4.length ≤ 1048576 := by have := weightS_len bru4; omega
  have hxB : (itL (bootItems nb0 mb0 ab0 bb0 cb0 db0 eb0 kb0 brb0 brb1 sb1 brb2)).weight ≤ 1073741824 := by
    unfold bootItems
    rw [w_itL]
    simp only [weightAll, w_itTs]
    have := w_light nb0 mb0 ab0 bb0 cb0 db0 eb0 kb0 brb0
    have := w_comm brb1 sb1
    omega
  have hxU : (itL (updItems nu0 mu0 au0 bu0 cu0 du0 eu0 ku0 bru0 bru1 su1 bru2 nu3 mu3 au3 bu3 cu3 du3 eu3 ku3 bru3 bru4 nu5 su6 nu7)).weight ≤ 1073741824 := by
    unfold updItems
    rw [w_itL]
    simp only [weightAll, w_itT, w_itTs]
    have := w_light nu0 mu0 au0 bu0 cu0 du0 eu0 ku0 bru0
    have := w_comm bru1 su1
    have := w_light nu3 mu3 au3 bu3 cu3 du3 eu3 ku3 bru3
    have := w_itN nu5
    have := w_itN nu7
    omega
  obtain ⟨pb0, qb0, rfl, -⟩ := hvb0
  obtain ⟨lb0, hlb0⟩ : ∃ l, brb0.length = l := ⟨_, rfl⟩
  rw [hlb0] at hWb0 ⊢
  obtain ⟨pb1, qb1, rfl, -⟩ := hvb1
  obtain ⟨lb1, hlb1⟩ : ∃ l, brb1.length = l := ⟨_, rfl⟩
  rw [hlb1] at hWb1 ⊢
  obtain ⟨pb2, qb2, rfl, -⟩ := hvb2
  obtain ⟨lb2, hlb2⟩ : ∃ l, brb2.length = l := ⟨_, rfl⟩
  rw [hlb2] at hWb2 ⊢
  obtain ⟨pu0, qu0, rfl, -⟩ := hvu0
  obtain ⟨lu0, hlu0⟩ : ∃ l, bru0.length = l := ⟨_, rfl⟩
  rw [hlu0] at hWu0 ⊢
  obtain ⟨pu1, qu1, rfl, -⟩ := hvu1
  obtain ⟨lu1, hlu1⟩ : ∃ l, bru1.length = l := ⟨_, rfl⟩
  rw [hlu1] at hWu1 ⊢
  obtain ⟨pu2, qu2, rfl, -⟩ := hvu2
  obtain ⟨lu2, hlu2⟩ : ∃ l, bru2.length = l := ⟨_, rfl⟩
  rw [hlu2] at hWu2 ⊢
  obtain ⟨pu3, qu3, rfl, -⟩ := hvu3
  obtain ⟨lu3, hlu3⟩ : ∃ l, bru3.length = l := ⟨_, rfl⟩
  rw [hlu3] at hWu3 ⊢
  obtain ⟨pu4, qu4, rfl, -⟩ := hvu4
  obtain ⟨lu4, hlu4⟩ : ∃ l, bru4.length = l := ⟨_, rfl⟩
  rw [hlu4] at hWu4 ⊢
  have h1 := fun W (h : Below w.heap.size w W) => itBoot_any nb0 mb0 ab0 bb0 cb0 db0 eb0 kb0 pb0 lb0 qb0 brb0 pb1 lb1 qb1 brb1 sb1 pb2 lb2 qb2 brb2 W hnb0 hmb0 hkb0 (hWb0.below h) hNb0 (hWb1.below h) hNb1 (hWb2.below h) hNb2 hxB
  have h3 := fun W (h : Below w.heap.size w W) => itUpd_any nu0 mu0 au0 bu0 cu0 du0 eu0 ku0 pu0 lu0 qu0 bru0 pu1 lu1 qu1 bru1 su1 pu2 lu2 qu2 bru2 nu3 mu3 au3 bu3 cu3 du3 eu3 ku3 pu3 lu3 qu3 bru3 pu4 lu4 qu4 bru4 nu5 su6 nu7 W hnu0 hmu0 hku0 (hWu0.below h) hNu0 (hWu1.below h) hNu1 (hWu2.below h) hNu2 hnu3 hmu3 hku3 (hWu3.below h) hNu3 (hWu4.below h) hNu4 hnu5 hnu7 hxU
  have gg1 : (encode (itL (bootItems nb0 mb0 ab0 bb0 cb0 db0 eb0 kb0 brb0 brb1 sb1 brb2))).2 = 0 → sel (bootBad (decode (encode (itL (bootItems nb0 mb0 ab0 bb0 cb0 db0 eb0 kb0 brb0 brb1 sb1 brb2))).1).1 (decode (encode (itL (bootItems nb0 mb0 ab0 bb0 cb0 db0 eb0 kb0 brb0 brb1 sb1 brb2))).1).2) (130 : Int) 0 = 0 ∧ ∀ cl W, Below w.heap.size w W → bootG (decode (encode (itL (bootItems nb0 mb0 ab0 bb0 cb0 db0 eb0 kb0 brb0 brb1 sb1 brb2))).1).1 (decode (encode (itL (bootItems nb0 mb0 ab0 bb0 cb0 db0 eb0 kb0 brb0 brb1 sb1 brb2))).1).2 cl W →
      Calls Tryd.prog 27 #[.agg ([Value.int .u64 nb0, .int .u64 mb0, .string ab0, .string bb0, .string cb0, .string db0, .string eb0, .int .u64 kb0, .slice pb0 lb0 qb0, .slice pb1 lb1 qb1, .string sb1, .slice pb2 lb2 qb2] : List Value).toArray, .agg cl.toArray] W fun e w' => e = .returned (.bool true) ∧ Below W.heap.size W w' := by
    intro he
    obtain ⟨x, hx⟩ : ∃ x, itL (bootItems nb0 mb0 ab0 bb0 cb0 db0 eb0 kb0 brb0 brb1 sb1 brb2) = x := ⟨_, rfl⟩
    rw [hx] at he ⊢
    obtain ⟨l, hl⟩ : ∃ l, (encode x).1 = l := ⟨_, rfl⟩
    have hen : encode x = (l, 0) := by rw [← hl, ← he]
    have hde := decode_encode hen
    rw [hl, hde]
    obtain ⟨f1, f2, f3⟩ := boot_fwd nb0 mb0 ab0 bb0 cb0 db0 eb0 kb0 brb0 brb1 sb1 brb2 hnb0 hmb0 hkb0 x hx
    rw [f1]
    refine ⟨rfl, fun cl W hb h => ?_⟩
    obtain ⟨p0, p1, p2, c0', c1', c2', rfl, g0, g1, g2⟩ := h
    rw [f1, f3]
    rw [f2.1, hlb0] at g0
    rw [f2.2.1, hlb1] at g1
    rw [f2.2.2, hlb2] at g2
    rw [f2.1, hlb0, f2.2.1, hlb1, f2.2.2, hlb2]
    exact sameBoot_any nb0 mb0 kb0 ab0 bb0 cb0 db0 eb0 pb0 p0 lb0 qb0 c0' brb0 sb1 pb1 p1 lb1 qb1 c1' brb1 pb2 p2 lb2 qb2 c2' brb2 W (hWb0.below hb) g0 (by omega) (hWb1.below hb) g1 (by omega) (hWb2.below hb) g2 (by omega)
  have gg2 : (encode (itL (updItems nu0 mu0 au0 bu0 cu0 du0 eu0 ku0 bru0 bru1 su1 bru2 nu3 mu3 au3 bu3 cu3 du3 eu3 ku3 bru3 bru4 nu5 su6 nu7))).2 = 0 → sel (updBad (decode (encode (itL (updItems nu0 mu0 au0 bu0 cu0 du0 eu0 ku0 bru0 bru1 su1 bru2 nu3 mu3 au3 bu3 cu3 du3 eu3 ku3 bru3 bru4 nu5 su6 nu7))).1).1 (decode (encode (itL (updItems nu0 mu0 au0 bu0 cu0 du0 eu0 ku0 bru0 bru1 su1 bru2 nu3 mu3 au3 bu3 cu3 du3 eu3 ku3 bru3 bru4 nu5 su6 nu7))).1).2) (130 : Int) 0 = 0 ∧ ∀ cl W, Below w.heap.size w W → updG (decode (encode (itL (updItems nu0 mu0 au0 bu0 cu0 du0 eu0 ku0 bru0 bru1 su1 bru2 nu3 mu3 au3 bu3 cu3 du3 eu3 ku3 bru3 bru4 nu5 su6 nu7))).1).1 (decode (encode (itL (updItems nu0 mu0 au0 bu0 cu0 du0 eu0 ku0 bru0 bru1 su1 bru2 nu3 mu3 au3 bu3 cu3 du3 eu3 ku3 bru3 bru4 nu5 su6 nu7))).1).2 cl W →
      Calls Tryd.prog 28 #[.agg ([Value.int .u64 nu0, .int .u64 mu0, .string au0, .string bu0, .string cu0, .string du0, .string eu0, .int .u64 ku0, .slice pu0 lu0 qu0, .slice pu1 lu1 qu1, .string su1, .slice pu2 lu2 qu2, .int .u64 nu3, .int .u64 mu3, .string au3, .string bu3, .string cu3, .string du3, .string eu3, .int .u64 ku3, .slice pu3 lu3 qu3, .slice pu4 lu4 qu4, .int .u64 nu5, .string su6, .int .u64 nu7] : List Value).toArray, .agg cl.toArray] W fun e w' => e = .returned (.bool true) ∧ Below W.heap.size W w' := by
    intro he
    obtain ⟨x, hx⟩ : ∃ x, itL (updItems nu0 mu0 au0 bu0 cu0 du0 eu0 ku0 bru0 bru1 su1 bru2 nu3 mu3 au3 bu3 cu3 du3 eu3 ku3 bru3 bru4 nu5 su6 nu7) = x := ⟨_, rfl⟩
    rw [hx] at he ⊢
    obtain ⟨l, hl⟩ : ∃ l, (encode x).1 = l := ⟨_, rfl⟩
    have hen : encode x = (l, 0) := by rw [← hl, ← he]
    have hde := decode_encode hen
    rw [hl, hde]
    obtain ⟨f1, f2, f3⟩ := upd_fwd nu0 mu0 au0 bu0 cu0 du0 eu0 ku0 bru0 bru1 su1 bru2 nu3 mu3 au3 bu3 cu3 du3 eu3 ku3 bru3 bru4 nu5 su6 nu7 hnu0 hmu0 hku0 hnu3 hmu3 hku3 hnu5 hnu7 x hx
    rw [f1]
    refine ⟨rfl, fun cl W hb h => ?_⟩
    obtain ⟨p0, p1, p2, p3, p4, c0', c1', c2', c3', c4', rfl, g0, g1, g2, g3, g4⟩ := h
    rw [f1, f3]
    rw [f2.1, hlu0] at g0
    rw [f2.2.1, hlu1] at g1
    rw [f2.2.2.1, hlu2] at g2
    rw [f2.2.2.2.1, hlu3] at g3
    rw [f2.2.2.2.2, hlu4] at g4
    rw [f2.1, hlu0, f2.2.1, hlu1, f2.2.2.1, hlu2, f2.2.2.2.1, hlu3, f2.2.2.2.2, hlu4]
    exact sameUpd_any nu0 mu0 ku0 au0 bu0 cu0 du0 eu0 pu0 p0 lu0 qu0 c0' bru0 su1 pu1 p1 lu1 qu1 c1' bru1 pu2 p2 lu2 qu2 c2' bru2 nu3 mu3 ku3 au3 bu3 cu3 du3 eu3 pu3 p3 lu3 qu3 c3' bru3 pu4 p4 lu4 qu4 c4' bru4 nu5 su6 nu7 W (hWu0.below hb) g0 (by omega) (hWu1.below hb) g1 (by omega) (hWu2.below hb) g2 (by omega) (hWu3.below hb) g3 (by omega) (hWu4.below hb) g4 (by omega)
  unfold encodeV at h1 h3
  have hsl : s.data.toList.length ≤ 1099511627776 := by have e : s.data.toList.length = s.size := rfl; omega
  have hbl : ∀ x : Item, (encode x).1.length ≤ 1099511627776 := fun x => by
    unfold encode
    split
    · decide
    · split
      · decide
      · split
        · decide
        · dsimp only; omega
  obtain ⟨y, k, w6, r3⟩ := updG_writes s.data.toList
  obtain ⟨o, m, w8, r4⟩ := bootG_writes s.data.toList
  exact hbk_walk [Value.int .u64 nb0, .int .u64 mb0, .string ab0, .string bb0, .string cb0, .string db0, .string eb0, .int .u64 kb0, .slice pb0 lb0 qb0, .slice pb1 lb1 qb1, .string sb1, .slice pb2 lb2 qb2] [Value.int .u64 nu0, .int .u64 mu0, .string au0, .string bu0, .string cu0, .string du0, .string eu0, .int .u64 ku0, .slice pu0 lu0 qu0, .slice pu1 lu1 qu1, .string su1, .slice pu2 lu2 qu2, .int .u64 nu3, .int .u64 mu3, .string au3, .string bu3, .string cu3, .string du3, .string eu3, .int .u64 ku3, .slice pu3 lu3 qu3, .slice pu4 lu4 qu4, .int .u64 nu5, .string su6, .int .u64 nu7] rfl rfl s _ _ y o _ _ _ _ _ k _ m _ _ _ _ w hK (bootG_shape _ _) (updG_shape _ _) (updG_shape _ _) (bootG_shape _ _) h1 (bootG_gives _ (hbl _)) h3 (updG_gives _ (hbl _)) (updG_gives s.data.toList hsl) w6 (bootG_gives s.data.toList hsl) w8 gg1 gg2 r3 r4
end Go.Proofs.YtfbopnebfdkhdaaDoor
