/- Contracts of pharosref13's SameLight, SameCommittee, SameBoot, SameUpdate where both are alike. -/
import Derived.Test.YtfbopnebfdkhdaaDoorQfB
import Derived.Test.YtfbopnebfdkhdaaDoorRdF
namespace Go.Proofs.YtfbopnebfdkhdaaDoor
open Go.RowKit Go.Shelf Go.Lib
attribute [local go_sem] Oper.semAt_some

set_option maxRecDepth 100000 in
set_option maxHeartbeats 6400000 in
theorem sameLight_any (n m k : Nat) (a b cc d e : ByteArray) (p p' : Option Addr) (l c c' : Nat) (t : List ByteArray) (w : World) (h : Strs w (.slice p l c) t) (h' : Strs w (.slice p' l c') t) (hl : l ≤ 1099511627776) : Calls Tryd.prog 58 #[.agg #[.int .u64 n, .int .u64 m, .string a, .string b, .string cc, .string d, .string e, .int .u64 k, .slice p l c], .agg #[.int .u64 n, .int .u64 m, .string a, .string b, .string cc, .string d, .string e, .int .u64 k, .slice p' l c']] w fun e w' => e = .returned (.bool true) ∧ Below w.heap.size w w' := by
  obtain ⟨w0, hw0⟩ : ∃ W, (w.alloc (.cells #[.int .u64 n, .int .u64 m, .string a, .string b, .string cc, .string d, .string e, .int .u64 k, .slice p l c] 37)).alloc (.cells #[.int .u64 n, .int .u64 m, .string a, .string b, .string cc, .string d, .string e, .int .u64 k, .slice p' l c'] 37) = W := ⟨_, rfl⟩
  have hb0 : Below w.heap.size w w0 := by rw [← hw0]; exact ((Below.refl _ _).alloc (Nat.le_refl _) _).alloc (by simp) _
  have HF := Lib.hid (show ∀ W, Below w0.heap.size w0 W → HasCells W w.heap.size [.int .u64 n, .int .u64 m, .string a, .string b, .string cc, .string d, .string e, .int .u64 k, .slice p l c] 37 ∧ HasCells W (w.heap.size + 1) [.int .u64 n, .int .u64 m, .string a, .string b, .string cc, .string d, .string e, .int .u64 k, .slice p' l c'] 37 from fun W hb => by
    have h1 : HasCells w0 w.heap.size [.int .u64 n, .int .u64 m, .string a, .string b, .string cc, .string d, .string e, .int .u64 k, .slice p l c] 37 := by
      rw [← hw0]
      exact (Below.heap_alloc _ _ _ (by simp)).trans (HasCells.new w [.int .u64 n, .int .u64 m, .string a, .string b, .string cc, .string d, .string e, .int .u64 k, .slice p l c] 37)
    have h2 : HasCells w0 (w.heap.size + 1) [.int .u64 n, .int .u64 m, .string a, .string b, .string cc, .string d, .string e, .int .u64 k, .slice p' l c'] 37 := by
      rw [← hw0]
      have := HasCells.new (w.alloc (.cells #[.int .u64 n, .int .u64 m, .string a, .string b, .string cc, .string d, .string e, .int .u64 k, .slice p l c] 37)) [.int .u64 n, .int .u64 m, .string a, .string b, .string cc, .string d, .string e, .int .u64 k, .slice p' l c'] 37
      rwa [World.size_alloc] at this
    exact ⟨(hb.block _ h1.lt).trans h1, (hb.block _ h2.lt).trans h2⟩)
  have HB0 := Lib.hid hb0
  have HW0 := Lib.hid hw0
  have H := Lib.hid h
  have H' := Lib.hid h'
  clear hw0 hb0 h h'
  go_enter Tryd.func58, Tryd.ntmps58
  go_wp2_with fail
  rw [show (w.alloc (.cells #[.int .u64 n, .int .u64 m, .string a, .string b, .string cc, .string d, .string e, .int .u64 k, .slice p l c] 37)).alloc (.cells #[.int .u64 n, .int .u64 m, .string a, .string b, .string cc, .string d, .string e, .int .u64 k, .slice p' l c'] 37) = w0 from HW0.out]
  have hlt : l = t.length := by
    obtain ⟨_, _, hv, _⟩ := H.out
    cases hv
    rfl
  refine (same8_any _ _ t w0 (H.out.below HB0.out) (H'.out.below HB0.out) (by rw [← hlt]; exact hl)).mono ?_
  rintro e w1 ⟨rfl, hb⟩
  clear hlt
  go_wp2_with fail
  go_ret
  exact ⟨rfl, HB0.out.trans (hb.mono HB0.out.size)⟩
set_option maxRecDepth 100000 in
set_option maxHeartbeats 6400000 in
theorem sameComm_any (s : ByteArray) (p p' : Option Addr) (l c c' : Nat) (t : List ByteArray) (w : World) (h : Strs w (.slice p l c) t) (h' : Strs w (.slice p' l c') t) (hl : l ≤ 1099511627776) : Calls Tryd.prog 59 #[.agg #[.slice p l c, .string s], .agg #[.slice p' l c', .string s]] w fun e w' => e = .returned (.bool true) ∧ Below w.heap.size w w' := by
  obtain ⟨w0, hw0⟩ : ∃ W, (w.alloc (.cells #[.slice p l c, .string s] 44)).alloc (.cells #[.slice p' l c', .string s] 44) = W := ⟨_, rfl⟩
  have hb0 : Below w.heap.size w w0 := by rw [← hw0]; exact ((Below.refl _ _).alloc (Nat.le_refl _) _).alloc (by simp) _
  have HF := Lib.hid (show ∀ W, Below w0.heap.size w0 W → HasCells W w.heap.size [.slice p l c, .string s] 44 ∧ HasCells W (w.heap.size + 1) [.slice p' l c', .string s] 44 from fun W hb => by
    have h1 : HasCells w0 w.heap.size [.slice p l c, .string s] 44 := by
      rw [← hw0]
      exact (Below.heap_alloc _ _ _ (by simp)).trans (HasCells.new w [.slice p l c, .string s] 44)
    have h2 : HasCells w0 (w.heap.size + 1) [.slice p' l c', .string s] 44 := by
      rw [← hw0]
      have := HasCells.new (w.alloc (.cells #[.slice p l c, .string s] 44)) [.slice p' l c', .string s] 44
      rwa [World.size_alloc] at this
    exact ⟨(hb.block _ h1.lt).trans h1, (hb.block _ h2.lt).trans h2⟩)
  have HB0 := Lib.hid hb0
  have HW0 := Lib.hid hw0
  have H := Lib.hid h
  have H' := Lib.hid h'
  clear hw0 hb0 h h'
  go_enter Tryd.func59, Tryd.ntmps59
  go_wp2_with fail
  rw [show (w.alloc (.cells #[.slice p l c, .string s] 44)).alloc (.cells #[.slice p' l c', .string s] 44) = w0 from HW0.out]
  have hlt : l = t.length := by
    obtain ⟨_, _, hv, _⟩ := H.out
    cases hv
    rfl
  refine (same8_any _ _ t w0 (H.out.below HB0.out) (H'.out.below HB0.out) (by rw [← hlt]; exact hl)).mono ?_
  rintro e w1 ⟨rfl, hb⟩
  clear hlt
  go_wp2_with fail
  go_ret
  exact ⟨rfl, HB0.out.trans (hb.mono HB0.out.size)⟩
set_option maxRecDepth 100000 in
set_option maxHeartbeats 6400000 in
theorem sameBoot_any (n0 m0 k0 : Nat) (a0 b0 cc0 d0 e0 : ByteArray) (p0 p0' : Option Addr) (l0 c0 c0' : Nat) (t0 : List ByteArray) (s1 : ByteArray) (p1 p1' : Option Addr) (l1 c1 c1' : Nat) (t1 : List ByteArray)  (p2 p2' : Option Addr) (l2 c2 c2' : Nat) (t2 : List ByteArray) (w : World) (h0 : Strs w (.slice p0 l0 c0) t0) (h0' : Strs w (.slice p0' l0 c0') t0) (hl0 : l0 ≤ 1099511627776) (h1 : Strs w (.slice p1 l1 c1) t1) (h1' : Strs w (.slice p1' l1 c1') t1) (hl1 : l1 ≤ 1099511627776) (h2 : Strs w (.slice p2 l2 c2) t2) (h2' : Strs w (.slice p2' l2 c2') t2) (hl2 : l2 ≤ 1099511627776) : Calls Tryd.prog 27 #[.agg #[.int .u64 n0, .int .u64 m0, .string a0, .string b0, .string cc0, .string d0, .string e0, .int .u64 k0, .slice p0 l0 c0, .slice p1 l1 c1, .string s1, .slice p2 l2 c2], .agg #[.int .u64 n0, .int .u64 m0, .string a0, .string b0, .string cc0, .string d0, .string e0, .int .u64 k0, .slice p0' l0 c0', .slice p1' l1 c1', .string s1, .slice p2' l2 c2']] w fun e w' => e = .returned (.bool true) ∧ Below w.heap.size w w' := by
  obtain ⟨w0, hw0⟩ : ∃ W, (w.alloc (.cells #[.int .u64 n0, .int .u64 m0, .string a0, .string b0, .string cc0, .string d0, .string e0, .int .u64 k0, .slice p0 l0 c0, .slice p1 l1 c1, .string s1, .slice p2 l2 c2] 48)).alloc (.cells #[.int .u64 n0, .int .u64 m0, .string a0, .string b0, .string cc0, .string d0, .string e0, .int .u64 k0, .slice p0' l0 c0', .slice p1' l1 c1', .string s1, .slice p2' l2 c2'] 48) = W := ⟨_, rfl⟩
  have hb0 : Below w.heap.size w w0 := by rw [← hw0]; exact ((Below.refl _ _).alloc (Nat.le_refl _) _).alloc (by simp) _
  have HF := Lib.hid (show ∀ W, Below w0.heap.size w0 W → HasCells W w.heap.size [.int .u64 n0, .int .u64 m0, .string a0, .string b0, .string cc0, .string d0, .string e0, .int .u64 k0, .slice p0 l0 c0, .slice p1 l1 c1, .string s1, .slice p2 l2 c2] 48 ∧ HasCells W (w.heap.size + 1) [.int .u64 n0, .int .u64 m0, .string a0, .string b0, .string cc0, .string d0, .string e0, .int .u64 k0, .slice p0' l0 c0', .slice p1' l1 c1', .string s1, .slice p2' l2 c2'] 48 from fun W hb => by
    have h1 : HasCells w0 w.heap.size [.int .u64 n0, .int .u64 m0, .string a0, .string b0, .string cc0, .string d0, .string e0, .int .u64 k0, .slice p0 l0 c0, .slice p1 l1 c1, .string s1, .slice p2 l2 c2] 48 := by
      rw [← hw0]
      exact (Below.heap_alloc _ _ _ (by simp)).trans (HasCells.new w [.int .u64 n0, .int .u64 m0, .string a0, .string b0, .string cc0, .string d0, .string e0, .int .u64 k0, .slice p0 l0 c0, .slice p1 l1 c1, .string s1, .slice p2 l2 c2] 48)
    have h2 : HasCells w0 (w.heap.size + 1) [.int .u64 n0, .int .u64 m0, .string a0, .string b0, .string cc0, .string d0, .string e0, .int .u64 k0, .slice p0' l0 c0', .slice p1' l1 c1', .string s1, .slice p2' l2 c2'] 48 := by
      rw [← hw0]
      have := HasCells.new (w.alloc (.cells #[.int .u64 n0, .int .u64 m0, .string a0, .string b0, .string cc0, .string d0, .string e0, .int .u64 k0, .slice p0 l0 c0, .slice p1 l1 c1, .string s1, .slice p2 l2 c2] 48)) [.int .u64 n0, .int .u64 m0, .string a0, .string b0, .string cc0, .string d0, .string e0, .int .u64 k0, .slice p0' l0 c0', .slice p1' l1 c1', .string s1, .slice p2' l2 c2'] 48
      rwa [World.size_alloc] at this
    exact ⟨(hb.block _ h1.lt).trans h1, (hb.block _ h2.lt).trans h2⟩)
  have HB0 := Lib.hid hb0
  have HW0 := Lib.hid hw0
  have H0 := Lib.hid h0
  have H0' := Lib.hid h0'
  have H1 := Lib.hid h1
  have H1' := Lib.hid h1'
  have H2 := Lib.hid h2
  have H2' := Lib.hid h2'
  clear hw0 hb0 h0 h0' h1 h1' h2 h2'
  have bz0 : Below w0.heap.size w0 w0 := Below.refl _ _
  go_enter Tryd.func27, Tryd.ntmps27
  go_wp2_with fail
  rw [show (w.alloc (.cells #[.int .u64 n0, .int .u64 m0, .string a0, .string b0, .string cc0, .string d0, .string e0, .int .u64 k0, .slice p0 l0 c0, .slice p1 l1 c1, .string s1, .slice p2 l2 c2] 48)).alloc (.cells #[.int .u64 n0, .int .u64 m0, .string a0, .string b0, .string cc0, .string d0, .string e0, .int .u64 k0, .slice p0' l0 c0', .slice p1' l1 c1', .string s1, .slice p2' l2 c2'] 48) = w0 from HW0.out]
  refine (sameLight_any _ _ _ _ _ _ _ _ _ _ _ _ _ _ w0 (H0.out.below (HB0.out.trans (bz0.mono HB0.out.size))) (H0'.out.below (HB0.out.trans (bz0.mono HB0.out.size))) hl0).mono ?_
  rintro e w1 ⟨rfl, hb⟩
  have bz1 := bz0.trans (hb.mono bz0.size)
  clear hb
  have qa9 := (HF.out w1 bz1).1.cell (j := 9) rfl
  have qb9 := (HF.out w1 bz1).2.cell (j := 9) rfl
  have qa10 := (HF.out w1 bz1).1.cell (j := 10) rfl
  have qb10 := (HF.out w1 bz1).2.cell (j := 10) rfl
  go_wp2_with fail
  refine (sameComm_any _ _ _ _ _ _ _ w1 (H1.out.below (HB0.out.trans (bz1.mono HB0.out.size))) (H1'.out.below (HB0.out.trans (bz1.mono HB0.out.size))) hl1).mono ?_
  rintro e w2 ⟨rfl, hb⟩
  have bz2 := bz1.trans (hb.mono bz1.size)
  clear hb qa9 qb9 qa10 qb10
  have qa11 := (HF.out w2 bz2).1.cell (j := 11) rfl
  have qb11 := (HF.out w2 bz2).2.cell (j := 11) rfl
  go_wp2_with fail
  have hlt2 : l2 = t2.length := by
    obtain ⟨_, _, hv, _⟩ := H2.out
    cases hv
    rfl
  refine (same8_any _ _ t2 w2 (H2.out.below (HB0.out.trans (bz2.mono HB0.out.size))) (H2'.out.below (HB0.out.trans (bz2.mono HB0.out.size))) (by rw [← hlt2]; exact hl2)).mono ?_
  clear hlt2
  rintro e w3 ⟨rfl, hb⟩
  have bz3 := bz2.trans (hb.mono bz2.size)
  clear hb qa11 qb11
  go_wp2_with fail
  go_ret
  exact ⟨rfl, HB0.out.trans (bz3.mono HB0.out.size)⟩
set_option maxRecDepth 100000 in
set_option maxHeartbeats 6400000 in
theorem sameUpd_any (n0 m0 k0 : Nat) (a0 b0 cc0 d0 e0 : ByteArray) (p0 p0' : Option Addr) (l0 c0 c0' : Nat) (t0 : List ByteArray) (s1 : ByteArray) (p1 p1' : Option Addr) (l1 c1 c1' : Nat) (t1 : List ByteArray)  (p2 p2' : Option Addr) (l2 c2 c2' : Nat) (t2 : List ByteArray) (n3 m3 k3 : Nat) (a3 b3 cc3 d3 e3 : ByteArray) (p3 p3' : Option Addr) (l3 c3 c3' : Nat) (t3 : List ByteArray)  (p4 p4' : Option Addr) (l4 c4 c4' : Nat) (t4 : List ByteArray) (n5 : Nat) (s6 : ByteArray) (n7 : Nat) (w : World) (h0 : Strs w (.slice p0 l0 c0) t0) (h0' : Strs w (.slice p0' l0 c0') t0) (hl0 : l0 ≤ 1099511627776) (h1 : Strs w (.slice p1 l1 c1) t1) (h1' : Strs w (.slice p1' l1 c1') t1) (hl1 : l1 ≤ 1099511627776) (h2 : Strs w (.slice p2 l2 c2) t2) (h2' : Strs w (.slice p2' l2 c2') t2) (hl2 : l2 ≤ 1099511627776) (h3 : Strs w (.slice p3 l3 c3) t3) (h3' : Strs w (.slice p3' l3 c3') t3) (hl3 : l3 ≤ 1099511627776) (h4 : Strs w (.slice p4 l4 c4) t4) (h4' : Strs w (.slice p4' l4 c4') t4) (hl4 : l4 ≤ 1099511627776)    : Calls Tryd.prog 28 #[.agg #[.int .u64 n0, .int .u64 m0, .string a0, .string b0, .string cc0, .string d0, .string e0, .int .u64 k0, .slice p0 l0 c0, .slice p1 l1 c1, .string s1, .slice p2 l2 c2, .int .u64 n3, .int .u64 m3, .string a3, .string b3, .string cc3, .string d3, .string e3, .int .u64 k3, .slice p3 l3 c3, .slice p4 l4 c4, .int .u64 n5, .string s6, .int .u64 n7], .agg #[.int .u64 n0, .int .u64 m0, .string a0, .string b0, .string cc0, .string d0, .string e0, .int .u64 k0, .slice p0' l0 c0', .slice p1' l1 c1', .string s1, .slice p2' l2 c2', .int .u64 n3, .int .u64 m3, .string a3, .string b3, .string cc3, .string d3, .string e3, .int .u64 k3, .slice p3' l3 c3', .slice p4' l4 c4', .int .u64 n5, .string s6, .int .u64 n7]] w fun e w' => e = .returned (.bool true) ∧ Below w.heap.size w w' := by
  obtain ⟨w0, hw0⟩ : ∃ W, (w.alloc (.cells #[.int .u64 n0, .int .u64 m0, .string a0, .string b0, .string cc0, .string d0, .string e0, .int .u64 k0, .slice p0 l0 c0, .slice p1 l1 c1, .string s1, .slice p2 l2 c2, .int .u64 n3, .int .u64 m3, .string a3, .string b3, .string cc3, .string d3, .string e3, .int .u64 k3, .slice p3 l3 c3, .slice p4 l4 c4, .int .u64 n5, .string s6, .int .u64 n7] 52)).alloc (.cells #[.int .u64 n0, .int .u64 m0, .string a0, .string b0, .string cc0, .string d0, .string e0, .int .u64 k0, .slice p0' l0 c0', .slice p1' l1 c1', .string s1, .slice p2' l2 c2', .int .u64 n3, .int .u64 m3, .string a3, .string b3, .string cc3, .string d3, .string e3, .int .u64 k3, .slice p3' l3 c3', .slice p4' l4 c4', .int .u64 n5, .string s6, .int .u64 n7] 52) = W := ⟨_, rfl⟩
  have hb0 : Below w.heap.size w w0 := by rw [← hw0]; exact ((Below.refl _ _).alloc (Nat.le_refl _) _).alloc (by simp) _
  have HF := Lib.hid (show ∀ W, Below w0.heap.size w0 W → HasCells W w.heap.size [.int .u64 n0, .int .u64 m0, .string a0, .string b0, .string cc0, .string d0, .string e0, .int .u64 k0, .slice p0 l0 c0, .slice p1 l1 c1, .string s1, .slice p2 l2 c2, .int .u64 n3, .int .u64 m3, .string a3, .string b3, .string cc3, .string d3, .string e3, .int .u64 k3, .slice p3 l3 c3, .slice p4 l4 c4, .int .u64 n5, .string s6, .int .u64 n7] 52 ∧ HasCells W (w.heap.size + 1) [.int .u64 n0, .int .u64 m0, .string a0, .string b0, .string cc0, .string d0, .string e0, .int .u64 k0, .slice p0' l0 c0', .slice p1' l1 c1', .string s1, .slice p2' l2 c2', .int .u64 n3, .int .u64 m3, .string a3, .string b3, .string cc3, .string d3, .string e3, .int .u64 k3, .slice p3' l3 c3', .slice p4' l4 c4', .int .u64 n5, .string s6, .int .u64 n7] 52 from fun W hb => by
    have h1 : HasCells w0 w.heap.size [.int .u64 n0, .int .u64 m0, .string a0, .string b0, .string cc0, .string d0, .string e0, .int .u64 k0, .slice p0 l0 c0, .slice p1 l1 c1, .string s1, .slice p2 l2 c2, .int .u64 n3, .int .u64 m3, .string a3, .string b3, .string cc3, .string d3, .string e3, .int .u64 k3, .slice p3 l3 c3, .slice p4 l4 c4, .int .u64 n5, .string s6, .int .u64 n7] 52 := by
      rw [← hw0]
      exact (Below.heap_alloc _ _ _ (by simp)).trans (HasCells.new w [.int .u64 n0, .int .u64 m0, .string a0, .string b0, .string cc0, .string d0, .string e0, .int .u64 k0, .slice p0 l0 c0, .slice p1 l1 c1, .string s1, .slice p2 l2 c2, .int .u64 n3, .int .u64 m3, .string a3, .string b3, .string cc3, .string d3, .string e3, .int .u64 k3, .slice p3 l3 c3, .slice p4 l4 c4, .int .u64 n5, .string s6, .int .u64 n7] 52)
    have h2 : HasCells w0 (w.heap.size + 1) [.int .u64 n0, .int .u64 m0, .string a0, .string b0, .string cc0, .string d0, .string e0, .int .u64 k0, .slice p0' l0 c0', .slice p1' l1 c1', .string s1, .slice p2' l2 c2', .int .u64 n3, .int .u64 m3, .string a3, .string b3, .string cc3, .string d3, .string e3, .int .u64 k3, .slice p3' l3 c3', .slice p4' l4 c4', .int .u64 n5, .string s6, .int .u64 n7] 52 := by
      rw [← hw0]
      have := HasCells.new (w.alloc (.cells #[.int .u64 n0, .int .u64 m0, .string a0, .string b0, .string cc0, .string d0, .string e0, .int .u64 k0, .slice p0 l0 c0, .slice p1 l1 c1, .string s1, .slice p2 l2 c2, .int .u64 n3, .int .u64 m3, .string a3, .string b3, .string cc3, .string d3, .string e3, .int .u64 k3, .slice p3 l3 c3, .slice p4 l4 c4, .int .u64 n5, .string s6, .int .u64 n7] 52)) [.int .u64 n0, .int .u64 m0, .string a0, .string b0, .string cc0, .string d0, .string e0, .int .u64 k0, .slice p0' l0 c0', .slice p1' l1 c1', .string s1, .slice p2' l2 c2', .int .u64 n3, .int .u64 m3, .string a3, .string b3, .string cc3, .string d3, .string e3, .int .u64 k3, .slice p3' l3 c3', .slice p4' l4 c4', .int .u64 n5, .string s6, .int .u64 n7] 52
      rwa [World.size_alloc] at this
    exact ⟨(hb.block _ h1.lt).trans h1, (hb.block _ h2.lt).trans h2⟩)
  have HB0 := Lib.hid hb0
  have HW0 := Lib.hid hw0
  have H0 := Lib.hid h0
  have H0' := Lib.hid h0'
  have H1 := Lib.hid h1
  have H1' := Lib.hid h1'
  have H2 := Lib.hid h2
  have H2' := Lib.hid h2'
  have H3 := Lib.hid h3
  have H3' := Lib.hid h3'
  have H4 := Lib.hid h4
  have H4' := Lib.hid h4'
  clear hw0 hb0 h0 h0' h1 h1' h2 h2' h3 h3' h4 h4'
  have bz0 : Below w0.heap.size w0 w0 := Below.refl _ _
  go_enter Tryd.func28, Tryd.ntmps28
  go_wp2_with fail
  rw [show (w.alloc (.cells #[.int .u64 n0, .int .u64 m0, .string a0, .string b0, .string cc0, .string d0, .string e0, .int .u64 k0, .slice p0 l0 c0, .slice p1 l1 c1, .string s1, .slice p2 l2 c2, .int .u64 n3, .int .u64 m3, .string a3, .string b3, .string cc3, .string d3, .string e3, .int .u64 k3, .slice p3 l3 c3, .slice p4 l4 c4, .int .u64 n5, .string s6, .int .u64 n7] 52)).alloc (.cells #[.int .u64 n0, .int .u64 m0, .string a0, .string b0, .string cc0, .string d0, .string e0, .int .u64 k0, .slice p0' l0 c0', .slice p1' l1 c1', .string s1, .slice p2' l2 c2', .int .u64 n3, .int .u64 m3, .string a3, .string b3, .string cc3, .string d3, .string e3, .int .u64 k3, .slice p3' l3 c3', .slice p4' l4 c4', .int .u64 n5, .string s6, .int .u64 n7] 52) = w0 from HW0.out]
  refine (sameLight_any _ _ _ _ _ _ _ _ _ _ _ _ _ _ w0 (H0.out.below (HB0.out.trans (bz0.mono HB0.out.size))) (H0'.out.below (HB0.out.trans (bz0.mono HB0.out.size))) hl0).mono ?_
  rintro e w1 ⟨rfl, hb⟩
  have bz1 := bz0.trans (hb.mono bz0.size)
  clear hb
  have qa12 := (HF.out w1 bz1).1.cell (j := 12) rfl
  have qb12 := (HF.out w1 bz1).2.cell (j := 12) rfl
  have qa13 := (HF.out w1 bz1).1.cell (j := 13) rfl
  have qb13 := (HF.out w1 bz1).2.cell (j := 13) rfl
  have qa14 := (HF.out w1 bz1).1.cell (j := 14) rfl
  have qb14 := (HF.out w1 bz1).2.cell (j := 14) rfl
  have qa15 := (HF.out w1 bz1).1.cell (j := 15) rfl
  have qb15 := (HF.out w1 bz1).2.cell (j := 15) rfl
  have qa16 := (HF.out w1 bz1).1.cell (j := 16) rfl
  have qb16 := (HF.out w1 bz1).2.cell (j := 16) rfl
  have qa17 := (HF.out w1 bz1).1.cell (j := 17) rfl
  have qb17 := (HF.out w1 bz1).2.cell (j := 17) rfl
  have qa18 := (HF.out w1 bz1).1.cell (j := 18) rfl
  have qb18 := (HF.out w1 bz1).2.cell (j := 18) rfl
  have qa19 := (HF.out w1 bz1).1.cell (j := 19) rfl
  have qb19 := (HF.out w1 bz1).2.cell (j := 19) rfl
  have qa20 := (HF.out w1 bz1).1.cell (j := 20) rfl
  have qb20 := (HF.out w1 bz1).2.cell (j := 20) rfl
  go_wp2_with fail
  refine (sameLight_any _ _ _ _ _ _ _ _ _ _ _ _ _ _ w1 (H3.out.below (HB0.out.trans (bz1.mono HB0.out.size))) (H3'.out.below (HB0.out.trans (bz1.mono HB0.out.size))) hl3).mono ?_
  rintro e w2 ⟨rfl, hb⟩
  have bz2 := bz1.trans (hb.mono bz1.size)
  clear hb qa12 qb12 qa13 qb13 qa14 qb14 qa15 qb15 qa16 qb16 qa17 qb17 qa18 qb18 qa19 qb19 qa20 qb20
  have qa9 := (HF.out w2 bz2).1.cell (j := 9) rfl
  have qb9 := (HF.out w2 bz2).2.cell (j := 9) rfl
  have qa10 := (HF.out w2 bz2).1.cell (j := 10) rfl
  have qb10 := (HF.out w2 bz2).2.cell (j := 10) rfl
  go_wp2_with fail
  refine (sameComm_any _ _ _ _ _ _ _ w2 (H1.out.below (HB0.out.trans (bz2.mono HB0.out.size))) (H1'.out.below (HB0.out.trans (bz2.mono HB0.out.size))) hl1).mono ?_
  rintro e w3 ⟨rfl, hb⟩
  have bz3 := bz2.trans (hb.mono bz2.size)
  clear hb qa9 qb9 qa10 qb10
  have qa11 := (HF.out w3 bz3).1.cell (j := 11) rfl
  have qb11 := (HF.out w3 bz3).2.cell (j := 11) rfl
  go_wp2_with fail
  have hlt2 : l2 = t2.length := by
    obtain ⟨_, _, hv, _⟩ := H2.out
    cases hv
    rfl
  refine (same8_any _ _ t2 w3 (H2.out.below (HB0.out.trans (bz3.mono HB0.out.size))) (H2'.out.below (HB0.out.trans (bz3.mono HB0.out.size))) (by rw [← hlt2]; exact hl2)).mono ?_
  clear hlt2
  rintro e w4 ⟨rfl, hb⟩
  have bz4 := bz3.trans (hb.mono bz3.size)
  clear hb qa11 qb11
  have qa21 := (HF.out w4 bz4).1.cell (j := 21) rfl
  have qb21 := (HF.out w4 bz4).2.cell (j := 21) rfl
  go_wp2_with fail
  have hlt4 : l4 = t4.length := by
    obtain ⟨_, _, hv, _⟩ := H4.out
    cases hv
    rfl
  refine (same8_any _ _ t4 w4 (H4.out.below (HB0.out.trans (bz4.mono HB0.out.size))) (H4'.out.below (HB0.out.trans (bz4.mono HB0.out.size))) (by rw [← hlt4]; exact hl4)).mono ?_
  clear hlt4
  rintro e w5 ⟨rfl, hb⟩
  have bz5 := bz4.trans (hb.mono bz4.size)
  clear hb qa21 qb21
  have qa22 := (HF.out w5 bz5).1.cell (j := 22) rfl
  have qb22 := (HF.out w5 bz5).2.cell (j := 22) rfl
  have qa23 := (HF.out w5 bz5).1.cell (j := 23) rfl
  have qb23 := (HF.out w5 bz5).2.cell (j := 23) rfl
  have qa24 := (HF.out w5 bz5).1.cell (j := 24) rfl
  have qb24 := (HF.out w5 bz5).2.cell (j := 24) rfl
  go_wp2_with fail
  go_ret
  exact ⟨rfl, HB0.out.trans (bz5.mono HB0.out.size)⟩
end Go.Proofs.YtfbopnebfdkhdaaDoor
