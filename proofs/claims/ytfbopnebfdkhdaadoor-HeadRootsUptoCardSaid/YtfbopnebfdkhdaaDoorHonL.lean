/- The walk of HeadOne. -/
import Derived.Test.YtfbopnebfdkhdaaDoorHonP
import Derived.Test.YtfbopnebfdkhdaaDoorHedO
namespace Go.Proofs.YtfbopnebfdkhdaaDoor
open Go.RowKit Go.Shelf Go.Lib
attribute [local go_sem] Oper.semAt_some

theorem one_cells (n m : Nat) (a b c d e : ByteArray) (k : Nat) (d' e' : ByteArray) (k' : Nat) (w : World) : Below w.heap.size w (((w.alloc (.cells #[.int .u64 n, .int .u64 m, .string a, .string b, .string c] 24)).alloc (.cells #[.string d, .string e, .int .u64 k] 34)).alloc (.cells #[.string d', .string e', .int .u64 k'] 34)) ∧ w.heap.size + 2 < (((w.alloc (.cells #[.int .u64 n, .int .u64 m, .string a, .string b, .string c] 24)).alloc (.cells #[.string d, .string e, .int .u64 k] 34)).alloc (.cells #[.string d', .string e', .int .u64 k'] 34)).heap.size ∧ ∀ W, Below (((w.alloc (.cells #[.int .u64 n, .int .u64 m, .string a, .string b, .string c] 24)).alloc (.cells #[.string d, .string e, .int .u64 k] 34)).alloc (.cells #[.string d', .string e', .int .u64 k'] 34)).heap.size (((w.alloc (.cells #[.int .u64 n, .int .u64 m, .string a, .string b, .string c] 24)).alloc (.cells #[.string d, .string e, .int .u64 k] 34)).alloc (.cells #[.string d', .string e', .int .u64 k'] 34)) W → W.cell? ⟨w.heap.size, 0, none⟩ = some (.int .u64 n) ∧ W.cell? ⟨w.heap.size, 1, none⟩ = some (.int .u64 m) ∧ W.cell? ⟨w.heap.size, 2, none⟩ = some (.string a) ∧ W.cell? ⟨w.heap.size, 3, none⟩ = some (.string b) ∧ W.cell? ⟨w.heap.size, 4, none⟩ = some (.string c) ∧ W.cell? ⟨w.heap.size + 1, 0, none⟩ = some (.string d) ∧ W.cell? ⟨w.heap.size + 1, 1, none⟩ = some (.string e) ∧ W.cell? ⟨w.heap.size + 1, 2, none⟩ = some (.int .u64 k) ∧ W.cell? ⟨w.heap.size + 2, 0, none⟩ = some (.string d') ∧ W.cell? ⟨w.heap.size + 2, 1, none⟩ = some (.string e') ∧ W.cell? ⟨w.heap.size + 2, 2, none⟩ = some (.int .u64 k') := by
  have hk : w.heap.size + 2 < (((w.alloc (.cells #[.int .u64 n, .int .u64 m, .string a, .string b, .string c] 24)).alloc (.cells #[.string d, .string e, .int .u64 k] 34)).alloc (.cells #[.string d', .string e', .int .u64 k'] 34)).heap.size := by simp
  have hwb : Below w.heap.size w (((w.alloc (.cells #[.int .u64 n, .int .u64 m, .string a, .string b, .string c] 24)).alloc (.cells #[.string d, .string e, .int .u64 k] 34)).alloc (.cells #[.string d', .string e', .int .u64 k'] 34)) := (((Below.refl w.heap.size w).alloc (Nat.le_refl _) _).alloc (by simp) _).alloc (by simp; omega) _
  have b1 : Below (w.alloc (.cells #[.int .u64 n, .int .u64 m, .string a, .string b, .string c] 24)).heap.size (w.alloc (.cells #[.int .u64 n, .int .u64 m, .string a, .string b, .string c] 24)) (((w.alloc (.cells #[.int .u64 n, .int .u64 m, .string a, .string b, .string c] 24)).alloc (.cells #[.string d, .string e, .int .u64 k] 34)).alloc (.cells #[.string d', .string e', .int .u64 k'] 34)) := (((Below.refl _ _).alloc (Nat.le_refl _) _).alloc (by simp) _)
  have b2 : Below ((w.alloc (.cells #[.int .u64 n, .int .u64 m, .string a, .string b, .string c] 24)).alloc (.cells #[.string d, .string e, .int .u64 k] 34)).heap.size ((w.alloc (.cells #[.int .u64 n, .int .u64 m, .string a, .string b, .string c] 24)).alloc (.cells #[.string d, .string e, .int .u64 k] 34)) (((w.alloc (.cells #[.int .u64 n, .int .u64 m, .string a, .string b, .string c] 24)).alloc (.cells #[.string d, .string e, .int .u64 k] 34)).alloc (.cells #[.string d', .string e', .int .u64 k'] 34)) := (Below.refl _ _).alloc (Nat.le_refl _) _
  have c0 : ∀ j u, [Value.int .u64 n, .int .u64 m, .string a, .string b, .string c][j]? = some u → (((w.alloc (.cells #[.int .u64 n, .int .u64 m, .string a, .string b, .string c] 24)).alloc (.cells #[.string d, .string e, .int .u64 k] 34)).alloc (.cells #[.string d', .string e', .int .u64 k'] 34)).cell? ⟨w.heap.size, j, none⟩ = some u := fun j u h => by
    refine (b1.cell (p := ⟨w.heap.size, j, none⟩) (by simp)).trans ?_
    rw [World.cell?_alloc_mark]; simpa using h
  have c1 : ∀ j u, [Value.string d, .string e, .int .u64 k][j]? = some u → (((w.alloc (.cells #[.int .u64 n, .int .u64 m, .string a, .string b, .string c] 24)).alloc (.cells #[.string d, .string e, .int .u64 k] 34)).alloc (.cells #[.string d', .string e', .int .u64 k'] 34)).cell? ⟨w.heap.size + 1, j, none⟩ = some u := fun j u h => by
    refine (b2.cell (p := ⟨w.heap.size + 1, j, none⟩) (by simp)).trans ?_
    rw [show w.heap.size + 1 = (w.alloc (.cells #[.int .u64 n, .int .u64 m, .string a, .string b, .string c] 24)).heap.size from by simp, World.cell?_alloc_mark]; simpa using h
  have c2 : ∀ j u, [Value.string d', .string e', .int .u64 k'][j]? = some u → (((w.alloc (.cells #[.int .u64 n, .int .u64 m, .string a, .string b, .string c] 24)).alloc (.cells #[.string d, .string e, .int .u64 k] 34)).alloc (.cells #[.string d', .string e', .int .u64 k'] 34)).cell? ⟨w.heap.size + 2, j, none⟩ = some u := fun j u h => by
    rw [show w.heap.size + 2 = ((w.alloc (.cells #[.int .u64 n, .int .u64 m, .string a, .string b, .string c] 24)).alloc (.cells #[.string d, .string e, .int .u64 k] 34)).heap.size from by simp, World.cell?_alloc_mark]; simpa using h
  exact ⟨hwb, hk, fun W h => ⟨(h.cell (p := ⟨w.heap.size, 0, none⟩) (by dsimp only; omega)).trans (c0 0 _ rfl), (h.cell (p := ⟨w.heap.size, 1, none⟩) (by dsimp only; omega)).trans (c0 1 _ rfl), (h.cell (p := ⟨w.heap.size, 2, none⟩) (by dsimp only; omega)).trans (c0 2 _ rfl), (h.cell (p := ⟨w.heap.size, 3, none⟩) (by dsimp only; omega)).trans (c0 3 _ rfl), (h.cell (p := ⟨w.heap.size, 4, none⟩) (by dsimp only; omega)).trans (c0 4 _ rfl), (h.cell (p := ⟨w.heap.size + 1, 0, none⟩) (by dsimp only; omega)).trans (c1 0 _ rfl), (h.cell (p := ⟨w.heap.size + 1, 1, none⟩) (by dsimp only; omega)).trans (c1 1 _ rfl), (h.cell (p := ⟨w.heap.size + 1, 2, none⟩) (by dsimp only; omega)).trans (c1 2 _ rfl), (h.cell (p := ⟨w.heap.size + 2, 0, none⟩) (by dsimp only; omega)).trans (c2 0 _ rfl), (h.cell (p := ⟨w.heap.size + 2, 1, none⟩) (by dsimp only; omega)).trans (c2 1 _ rfl), (h.cell (p := ⟨w.heap.size + 2, 2, none⟩) (by dsimp only; omega)).trans (c2 2 _ rfl)⟩⟩
set_option maxRecDepth 100000 in
set_option maxHeartbeats 6400000 in
theorem one_no (n m : Nat) (a b c d e : ByteArray) (k : Nat) (d' e' : ByteArray) (k' : Nat) (pa : Option Addr) (la ca : Nat) (pb : Option Addr) (lb cb : Nat) (q : Bool) (w : World) (hK : KTab w)
    (h1 : ∀ W, Below w.heap.size w W → Calls Tryd.prog 14 #[.agg #[.int .u64 n, .int .u64 m, .string a, .string b, .string c, .string d, .string e, .int .u64 k, .slice pa la ca]] W fun x w' => x = .returned (.bool false) ∧ Below W.heap.size W w')
    (h2 : ∀ W, Below w.heap.size w W → Calls Tryd.prog 14 #[.agg #[.int .u64 n, .int .u64 m, .string a, .string b, .string c, .string d', .string e', .int .u64 k', .slice pb lb cb]] W fun x w' => x = .returned (.bool q) ∧ Below W.heap.size W w')  :
    Calls Tryd.prog 4 #[.agg #[.int .u64 n, .int .u64 m, .string a, .string b, .string c], .agg #[.string d, .string e, .int .u64 k], .agg #[.string d', .string e', .int .u64 k'], .slice pa la ca, .slice pb lb cb] w fun x w' => x = .returned (.bool true) ∧ Below w.heap.size w w' := by
  have H1 := Lib.hid h1
  have H2 := Lib.hid h2
  have HK := Lib.hid hK
  have hcl := one_cells n m a b c d e k d' e' k' w
  clear h1 h2 hK
  go_enter Tryd.func4, Tryd.ntmps4
  go_wp2_with fail
  obtain ⟨wb, hwb⟩ : ∃ wb, (((w.alloc (.cells #[.int .u64 n, .int .u64 m, .string a, .string b, .string c] 24)).alloc (.cells #[.string d, .string e, .int .u64 k] 34)).alloc (.cells #[.string d', .string e', .int .u64 k'] 34)) = wb := ⟨_, rfl⟩
  rw [hwb] at hcl ⊢
  clear hwb
  obtain ⟨hb, hk, hS⟩ := hcl
  have HWB := Lib.hid hb
  have HSS := Lib.hid hS
  clear hb hS
  refine (shown13_any wb (HK.out.below HWB.out)).mono ?_
  rintro z w1 ⟨rfl, b1⟩
  obtain ⟨q0, q1, q2, q3, q4, r0, r1, r2, y0, y1, y2⟩ := HSS.out w1 b1
  go_wp2_with fail
  refine (H1.out w1 (HWB.out.trans (b1.mono HWB.out.size))).mono ?_
  rintro z w2 ⟨rfl, hb2⟩
  have b2 : Below wb.heap.size wb w2 := b1.trans (hb2.mono b1.size)
  clear b1 hb2 q0 q1 q2 q3 q4 r0 r1 r2 y0 y1 y2
  obtain ⟨q0, q1, q2, q3, q4, r0, r1, r2, y0, y1, y2⟩ := HSS.out w2 b2
  go_wp2_with fail
  refine (H2.out w2 (HWB.out.trans (b2.mono HWB.out.size))).mono ?_
  rintro z w3 ⟨rfl, hb3⟩
  have b3 : Below wb.heap.size wb w3 := b2.trans (hb3.mono b2.size)
  clear b2 hb3 q0 q1 q2 q3 q4 r0 r1 r2 y0 y1 y2
  obtain ⟨q0, q1, q2, q3, q4, r0, r1, r2, y0, y1, y2⟩ := HSS.out w3 b3
  go_wp2
  go_ret
  exact ⟨rfl, HWB.out.trans (b3.mono HWB.out.size)⟩
set_option maxRecDepth 100000 in
set_option maxHeartbeats 6400000 in
theorem one_yesno (n m : Nat) (a b c d e : ByteArray) (k : Nat) (d' e' : ByteArray) (k' : Nat) (pa : Option Addr) (la ca : Nat) (pb : Option Addr) (lb cb : Nat) (w : World) (hK : KTab w)
    (h1 : ∀ W, Below w.heap.size w W → Calls Tryd.prog 14 #[.agg #[.int .u64 n, .int .u64 m, .string a, .string b, .string c, .string d, .string e, .int .u64 k, .slice pa la ca]] W fun x w' => x = .returned (.bool true) ∧ Below W.heap.size W w')
    (h2 : ∀ W, Below w.heap.size w W → Calls Tryd.prog 14 #[.agg #[.int .u64 n, .int .u64 m, .string a, .string b, .string c, .string d', .string e', .int .u64 k', .slice pb lb cb]] W fun x w' => x = .returned (.bool false) ∧ Below W.heap.size W w') :
    Calls Tryd.prog 4 #[.agg #[.int .u64 n, .int .u64 m, .string a, .string b, .string c], .agg #[.string d, .string e, .int .u64 k], .agg #[.string d', .string e', .int .u64 k'], .slice pa la ca, .slice pb lb cb] w fun x w' => x = .returned (.bool true) ∧ Below w.heap.size w w' := by
  have H1 := Lib.hid h1
  have H2 := Lib.hid h2
  have HK := Lib.hid hK
  have hcl := one_cells n m a b c d e k d' e' k' w
  clear h1 h2 hK
  go_enter Tryd.func4, Tryd.ntmps4
  go_wp2_with fail
  obtain ⟨wb, hwb⟩ : ∃ wb, (((w.alloc (.cells #[.int .u64 n, .int .u64 m, .string a, .string b, .string c] 24)).alloc (.cells #[.string d, .string e, .int .u64 k] 34)).alloc (.cells #[.string d', .string e', .int .u64 k'] 34)) = wb := ⟨_, rfl⟩
  rw [hwb] at hcl ⊢
  clear hwb
  obtain ⟨hb, hk, hS⟩ := hcl
  have HWB := Lib.hid hb
  have HSS := Lib.hid hS
  clear hb hS
  refine (shown13_any wb (HK.out.below HWB.out)).mono ?_
  rintro z w1 ⟨rfl, b1⟩
  obtain ⟨q0, q1, q2, q3, q4, r0, r1, r2, y0, y1, y2⟩ := HSS.out w1 b1
  go_wp2_with fail
  refine (H1.out w1 (HWB.out.trans (b1.mono HWB.out.size))).mono ?_
  rintro z w2 ⟨rfl, hb2⟩
  have b2 : Below wb.heap.size wb w2 := b1.trans (hb2.mono b1.size)
  clear b1 hb2 q0 q1 q2 q3 q4 r0 r1 r2 y0 y1 y2
  obtain ⟨q0, q1, q2, q3, q4, r0, r1, r2, y0, y1, y2⟩ := HSS.out w2 b2
  go_wp2_with fail
  refine (H2.out w2 (HWB.out.trans (b2.mono HWB.out.size))).mono ?_
  rintro z w3 ⟨rfl, hb3⟩
  have b3 : Below wb.heap.size wb w3 := b2.trans (hb3.mono b2.size)
  clear b2 hb3 q0 q1 q2 q3 q4 r0 r1 r2 y0 y1 y2
  obtain ⟨q0, q1, q2, q3, q4, r0, r1, r2, y0, y1, y2⟩ := HSS.out w3 b3
  go_wp2
  go_ret
  exact ⟨rfl, HWB.out.trans (b3.mono HWB.out.size)⟩
set_option maxRecDepth 100000 in
set_option maxHeartbeats 6400000 in
theorem one_same (n m : Nat) (a b c d e : ByteArray) (k : Nat) (d' e' : ByteArray) (k' : Nat) (pa : Option Addr) (la ca : Nat) (pb : Option Addr) (lb cb : Nat) (w : World) (hK : KTab w)
    (h1 : ∀ W, Below w.heap.size w W → Calls Tryd.prog 14 #[.agg #[.int .u64 n, .int .u64 m, .string a, .string b, .string c, .string d, .string e, .int .u64 k, .slice pa la ca]] W fun x w' => x = .returned (.bool true) ∧ Below W.heap.size W w')
    (h2 : ∀ W, Below w.heap.size w W → Calls Tryd.prog 14 #[.agg #[.int .u64 n, .int .u64 m, .string a, .string b, .string c, .string d', .string e', .int .u64 k', .slice pb lb cb]] W fun x w' => x = .returned (.bool true) ∧ Below W.heap.size W w') (g0 : (d.toList == d'.toList) = true) (g1 : (e.toList == e'.toList) = true) (g2 : ((k : Int) == (k' : Int)) = true) :
    Calls Tryd.prog 4 #[.agg #[.int .u64 n, .int .u64 m, .string a, .string b, .string c], .agg #[.string d, .string e, .int .u64 k], .agg #[.string d', .string e', .int .u64 k'], .slice pa la ca, .slice pb lb cb] w fun x w' => x = .returned (.bool true) ∧ Below w.heap.size w w' := by
  have H1 := Lib.hid h1
  have H2 := Lib.hid h2
  have HK := Lib.hid hK
  have hcl := one_cells n m a b c d e k d' e' k' w
  clear h1 h2 hK
  go_enter Tryd.func4, Tryd.ntmps4
  go_wp2_with fail
  obtain ⟨wb, hwb⟩ : ∃ wb, (((w.alloc (.cells #[.int .u64 n, .int .u64 m, .string a, .string b, .string c] 24)).alloc (.cells #[.string d, .string e, .int .u64 k] 34)).alloc (.cells #[.string d', .string e', .int .u64 k'] 34)) = wb := ⟨_, rfl⟩
  rw [hwb] at hcl ⊢
  clear hwb
  obtain ⟨hb, hk, hS⟩ := hcl
  have HWB := Lib.hid hb
  have HSS := Lib.hid hS
  clear hb hS
  refine (shown13_any wb (HK.out.below HWB.out)).mono ?_
  rintro z w1 ⟨rfl, b1⟩
  obtain ⟨q0, q1, q2, q3, q4, r0, r1, r2, y0, y1, y2⟩ := HSS.out w1 b1
  go_wp2_with fail
  refine (H1.out w1 (HWB.out.trans (b1.mono HWB.out.size))).mono ?_
  rintro z w2 ⟨rfl, hb2⟩
  have b2 : Below wb.heap.size wb w2 := b1.trans (hb2.mono b1.size)
  clear b1 hb2 q0 q1 q2 q3 q4 r0 r1 r2 y0 y1 y2
  obtain ⟨q0, q1, q2, q3, q4, r0, r1, r2, y0, y1, y2⟩ := HSS.out w2 b2
  go_wp2_with fail
  refine (H2.out w2 (HWB.out.trans (b2.mono HWB.out.size))).mono ?_
  rintro z w3 ⟨rfl, hb3⟩
  have b3 : Below wb.heap.size wb w3 := b2.trans (hb3.mono b2.size)
  clear b2 hb3 q0 q1 q2 q3 q4 r0 r1 r2 y0 y1 y2
  obtain ⟨q0, q1, q2, q3, q4, r0, r1, r2, y0, y1, y2⟩ := HSS.out w3 b3
  go_wp2
  go_ret
  exact ⟨rfl, HWB.out.trans (b3.mono HWB.out.size)⟩
set_option maxRecDepth 100000 in
set_option maxHeartbeats 6400000 in
theorem one_other (n m : Nat) (a b c d e : ByteArray) (k : Nat) (d' e' : ByteArray) (k' : Nat) (pa : Option Addr) (la ca : Nat) (pb : Option Addr) (lb cb : Nat) (w : World) (hK : KTab w)
    (h1 : ∀ W, Below w.heap.size w W → Calls Tryd.prog 14 #[.agg #[.int .u64 n, .int .u64 m, .string a, .string b, .string c, .string d, .string e, .int .u64 k, .slice pa la ca]] W fun x w' => x = .returned (.bool true) ∧ Below W.heap.size W w')
    (h2 : ∀ W, Below w.heap.size w W → Calls Tryd.prog 14 #[.agg #[.int .u64 n, .int .u64 m, .string a, .string b, .string c, .string d', .string e', .int .u64 k', .slice pb lb cb]] W fun x w' => x = .returned (.bool true) ∧ Below W.heap.size W w')
    (rx ry fx fy : ByteArray) (VL WL SX SY : List ByteArray) (hlV : VL.length = 2) (hlW : WL.length = 2) (hlX : SX.length = 3) (hlY : SY.length = 3)
    (hE1 : ∀ W, Calls Tryd.prog 15 #[.agg #[.string d, .string e, .int .u64 k]] W fun x w' => x = .returned (.tuple #[.string rx, .int .i64 0]) ∧ Below W.heap.size W w')
    (hE2 : ∀ W, Calls Tryd.prog 15 #[.agg #[.string d', .string e', .int .u64 k']] W fun x w' => x = .returned (.tuple #[.string ry, .int .i64 0]) ∧ Below W.heap.size W w')
    (hWx : ∀ W, Below w.heap.size w W → Calls Tryd.prog 16 #[.string rx, .slice pa la ca, .int .u64 2] W fun x w' => ∃ vl, x = .returned (.tuple #[vl, .string fx]) ∧ OwnS W.heap.size w' vl VL ∧ Below W.heap.size W w')
    (hWy : ∀ W, Below w.heap.size w W → Calls Tryd.prog 16 #[.string ry, .slice pb lb cb, .int .u64 2] W fun x w' => ∃ vl, x = .returned (.tuple #[vl, .string fy]) ∧ OwnS W.heap.size w' vl WL ∧ Below W.heap.size W w')
    (hX : ∀ W, Calls Tryd.prog 17 #[.agg #[.string d, .string e, .int .u64 k]] W fun x w' => ∃ v', x = .returned v' ∧ OwnS W.heap.size w' v' SX ∧ Below W.heap.size W w')
    (hY : ∀ W, Calls Tryd.prog 17 #[.agg #[.string d', .string e', .int .u64 k']] W fun x w' => ∃ v', x = .returned v' ∧ OwnS W.heap.size w' v' SY ∧ Below W.heap.size W w')
    (hCl : ∀ v W, Strs W v ((VL ++ WL) ++ (SX ++ SY)) → Calls Tryd.prog 12 #[v] W fun x w' => x = .returned (.bool true) ∧ Below W.heap.size W w')
    (key : (d.toList == d'.toList) = false ∨ ((d.toList == d'.toList) = true ∧ (e.toList == e'.toList) = false) ∨ ((d.toList == d'.toList) = true ∧ (e.toList == e'.toList) = true ∧ ((k : Int) == (k' : Int)) = false)) :
    Calls Tryd.prog 4 #[.agg #[.int .u64 n, .int .u64 m, .string a, .string b, .string c], .agg #[.string d, .string e, .int .u64 k], .agg #[.string d', .string e', .int .u64 k'], .slice pa la ca, .slice pb lb cb] w fun x w' => x = .returned (.bool true) ∧ Below w.heap.size w w' := by
  have H1 := Lib.hid h1
  have H2 := Lib.hid h2
  have HK := Lib.hid hK
  have HX := Lib.hid hX
  have HY := Lib.hid hY
  have HEX := Lib.hid hE1
  have HEY := Lib.hid hE2
  have HW1 := Lib.hid hWx
  have HW2 := Lib.hid hWy
  have HCL := Lib.hid hCl
  clear hX hY hE1 hE2 hWx hWy hCl
  have hcl := one_cells n m a b c d e k d' e' k' w
  clear h1 h2 hK
  go_enter Tryd.func4, Tryd.ntmps4
  go_wp2_with fail
  obtain ⟨wb, hwb⟩ : ∃ wb, (((w.alloc (.cells #[.int .u64 n, .int .u64 m, .string a, .string b, .string c] 24)).alloc (.cells #[.string d, .string e, .int .u64 k] 34)).alloc (.cells #[.string d', .string e', .int .u64 k'] 34)) = wb := ⟨_, rfl⟩
  rw [hwb] at hcl ⊢
  clear hwb
  obtain ⟨hb, hk, hS⟩ := hcl
  have HWB := Lib.hid hb
  have HSS := Lib.hid hS
  clear hb hS
  refine (shown13_any wb (HK.out.below HWB.out)).mono ?_
  rintro z w1 ⟨rfl, b1⟩
  obtain ⟨q0, q1, q2, q3, q4, r0, r1, r2, y0, y1, y2⟩ := HSS.out w1 b1
  go_wp2_with fail
  refine (H1.out w1 (HWB.out.trans (b1.mono HWB.out.size))).mono ?_
  rintro z w2 ⟨rfl, hb2⟩
  have b2 : Below wb.heap.size wb w2 := b1.trans (hb2.mono b1.size)
  clear b1 hb2 q0 q1 q2 q3 q4 r0 r1 r2 y0 y1 y2
  obtain ⟨q0, q1, q2, q3, q4, r0, r1, r2, y0, y1, y2⟩ := HSS.out w2 b2
  go_wp2_with fail
  refine (H2.out w2 (HWB.out.trans (b2.mono HWB.out.size))).mono ?_
  rintro z w3 ⟨rfl, hb3⟩
  have b3 : Below wb.heap.size wb w3 := b2.trans (hb3.mono b2.size)
  clear b2 hb3 q0 q1 q2 q3 q4 r0 r1 r2 y0 y1 y2
  obtain ⟨q0, q1, q2, q3, q4, r0, r1, r2, y0, y1, y2⟩ := HSS.out w3 b3
  rcases key with g0 | ⟨g0, g1⟩ | ⟨g0, g1, g2⟩
  all_goals
    go_wp2_with fail
    refine (HEX.out _).mono ?_
    rintro z w4 ⟨rfl, hb4⟩
    have b4 : Below wb.heap.size wb w4 := b3.trans (hb4.mono b3.size)
    clear b3 hb4 q0 q1 q2 q3 q4 r0 r1 r2 y0 y1 y2
    obtain ⟨q0, q1, q2, q3, q4, r0, r1, r2, y0, y1, y2⟩ := HSS.out w4 b4
    go_wp2_with fail
    refine (HEY.out _).mono ?_
    rintro z w5 ⟨rfl, hb5⟩
    have b5 : Below wb.heap.size wb w5 := b4.trans (hb5.mono b4.size)
    clear b4 hb5 q0 q1 q2 q3 q4 r0 r1 r2 y0 y1 y2
    go_wp2_with fail
    refine (HW1.out w5 (HWB.out.trans (b5.mono HWB.out.size))).mono ?_
    rintro z w6 ⟨vV, rfl, hoV, hb6⟩
    have b6 : Below wb.heap.size wb w6 := b5.trans (hb6.mono b5.size)
    obtain ⟨pV, cV, hvV⟩ := hoV.form
    rw [hlV] at hvV
    subst hvV
    have HV0 := Lib.hid (show OwnS wb.heap.size w6 (.slice pV 2 cV) VL from hoV.base b5.size)
    clear b5 hb6 hoV
    go_wp2_with fail
    refine (HW2.out w6 (HWB.out.trans (b6.mono HWB.out.size))).mono ?_
    rintro z w7 ⟨vW, rfl, hoW, hb7⟩
    have b7 : Below wb.heap.size wb w7 := b6.trans (hb7.mono b6.size)
    obtain ⟨gw, cw, hvW, -, hgw, hcw, -⟩ := hoW.opened (by rw [hlW]; omega)
    rw [hlW] at hvW
    subst hvW
    have HV := Lib.hid (show OwnS wb.heap.size w7.drew (.slice pV 2 cV) VL from HV0.out.after hb7.drew)
    have HCW := Lib.hid (show ∀ j x, WL[j]? = some x → w7.drew.cell? ⟨gw, j, none⟩ = some (.string x) from hcw)
    have b8 : Below wb.heap.size wb w7.drew := b7.drew
    clear b6 hb7 hoW hcw hgw HV0
    go_wp2_with fail
    refine wp_region_held_drew (S := (fun W => W.cell? ⟨w.heap.size, 0, none⟩ = some (.int .u64 n) ∧ W.cell? ⟨w.heap.size, 1, none⟩ = some (.int .u64 m) ∧ W.cell? ⟨w.heap.size, 2, none⟩ = some (.string a) ∧ W.cell? ⟨w.heap.size, 3, none⟩ = some (.string b) ∧ W.cell? ⟨w.heap.size, 4, none⟩ = some (.string c) ∧ W.cell? ⟨w.heap.size + 1, 0, none⟩ = some (.string d) ∧ W.cell? ⟨w.heap.size + 1, 1, none⟩ = some (.string e) ∧ W.cell? ⟨w.heap.size + 1, 2, none⟩ = some (.int .u64 k) ∧ W.cell? ⟨w.heap.size + 2, 0, none⟩ = some (.string d') ∧ W.cell? ⟨w.heap.size + 2, 1, none⟩ = some (.string e') ∧ W.cell? ⟨w.heap.size + 2, 2, none⟩ = some (.int .u64 k'))) (by kernel_rfl) (HSS.out _ b8) (fun hHeld => ?_)
    refine wpAnyH_take (i := 0) (v := ?_) rfl (by kernel_rfl) (by kernel_rfl) (by kernel_rfl) (fun _ _ _ h => h) (.inl ⟨by rfl, ?_⟩) (by assumption) ?_
    rotate_left 1
    · intro w0 hSw
      go_simp <;> with_reducible rfl
    try simp only [Act.put, List.getElem_toArray, List.getElem_cons_zero, List.setIfInBounds_toArray, List.set_cons_zero, List.set_cons_succ]
    refine wpAnyH_take (i := 1) (v := ?_) rfl (by kernel_rfl) (by kernel_rfl) (by kernel_rfl) (fun _ _ _ h => h) (.inl ⟨by rfl, ?_⟩) (by assumption) ?_
    rotate_left 1
    · intro w0 hSw
      go_simp <;> with_reducible rfl
    try simp only [Act.put, List.getElem_toArray, List.getElem_cons_zero, List.getElem_cons_succ, List.setIfInBounds_toArray, List.set_cons_zero, List.set_cons_succ]
    refine wpAnyH_take (i := 3) (v := ?_) rfl (by kernel_rfl) (by kernel_rfl) (by kernel_rfl) (fun _ _ _ h => h) (.inl ⟨by rfl, ?_⟩) (by assumption) ?_
    rotate_left 1
    · intro w0 hSw
      obtain ⟨z0, z1, z2, z3, z4, z5, z6, z7, z8, z9, z10⟩ := hSw
      go_simp <;> with_reducible rfl
    try simp only [Act.put, List.getElem_toArray, List.getElem_cons_zero, List.getElem_cons_succ, List.setIfInBounds_toArray, List.set_cons_zero, List.set_cons_succ]
    refine wpAnyH_take (i := 5) (v := ?_) rfl (by kernel_rfl) (by kernel_rfl) (by kernel_rfl) (fun _ _ _ h => h) (.inl ⟨by rfl, ?_⟩) (by assumption) ?_
    rotate_left 1
    · intro w0 hSw
      obtain ⟨z0, z1, z2, z3, z4, z5, z6, z7, z8, z9, z10⟩ := hSw
      go_simp <;> with_reducible rfl
    try simp only [Act.put, List.getElem_toArray, List.getElem_cons_zero, List.getElem_cons_succ, List.setIfInBounds_toArray, List.set_cons_zero, List.set_cons_succ]
    refine wpAnyH_ready (rs := [2]) (by kernel_rfl) (by simp) ?_
    refine AllReadyH.cons rfl (fun K hK => ?_) AllReadyH.nil
    refine step_appendTs (by rfl) _ _ 30 rfl wb.heap.size Tryd.underlying30 infoStr _ VL rfl HV.out ⟨gw, 0, none⟩ 2 cw WL rfl hlW ?f0 ?f1 ?f2 ?_
    case f0 => exact fun j x hx => by rw [addr_add]; exact HCW.out j x hx
    case f1 => rw [hlV]; omega
    case f2 => exact b8.size
    intro v9 w9 ho9 hg9 _
    have b9 : Below wb.heap.size wb w9 := b8.grown hg9 b8.size (fun r hr => (HV.out.lt r hr).1)
    obtain ⟨p9, c9, hv9⟩ := ho9.form
    rw [List.length_append, hlV, hlW] at hv9
    subst hv9
    have HVW := Lib.hid (show OwnS wb.heap.size w9 (.slice p9 4 c9) (VL ++ WL) from ho9)
    clear ho9 hg9
    refine hK.out _ _ (HSS.out _ b9) (fun hHeld => ?_)
    clear hK K
    try simp only [Act.put, List.getElem_toArray, List.getElem_cons_zero, List.getElem_cons_succ, List.setIfInBounds_toArray, List.set_cons_zero, List.set_cons_succ]
    refine wpAnyH_ready (rs := [4]) (by kernel_rfl) (by simp) ?_
    refine AllReadyH.cons rfl (fun K hK => ?_) AllReadyH.nil
    go_simp
    go_at_call 17
    refine (HX.out _).mono ?_
    rintro z w10 ⟨vX, rfl, hoX, hb10⟩
    have b10 : Below wb.heap.size wb w10 := b9.trans (hb10.mono b9.size)
    obtain ⟨pX, cX, hvX⟩ := hoX.form
    rw [hlX] at hvX
    subst hvX
    have HOX := Lib.hid (show OwnS w9.heap.size w10 (.slice pX 3 cX) SX from hoX)
    have HVW2 := Lib.hid (HVW.out.after hb10)
    clear hoX hb10
    refine hK.out _ _ (HSS.out _ b10) (fun hHeld => ?_)
    clear hK K
    try simp only [Act.put, List.getElem_toArray, List.getElem_cons_zero, List.getElem_cons_succ, List.setIfInBounds_toArray, List.set_cons_zero, List.set_cons_succ]
    refine wpAnyH_ready (rs := [6]) (by kernel_rfl) (by simp) ?_
    refine AllReadyH.cons rfl (fun K hK => ?_) AllReadyH.nil
    go_simp
    go_at_call 17
    refine (HY.out _).mono ?_
    rintro z w11 ⟨vY, rfl, hoY, hb11⟩
    have b11 : Below wb.heap.size wb w11 := b10.trans (hb11.mono b10.size)
    obtain ⟨gy, cY, hvY, -, -, hcY, -⟩ := hoY.opened (by rw [hlY]; omega)
    rw [hlY] at hvY
    subst hvY
    have HOX2 := Lib.hid (HOX.out.after hb11)
    have HVW3 := Lib.hid (HVW2.out.after hb11)
    have HCY := Lib.hid hcY
    have hz9 : wb.heap.size ≤ w9.heap.size := b9.size
    have hdis : ∀ r, (Value.slice p9 4 c9).ownBlock = some r → ∀ r', (Value.slice pX 3 cX).ownBlock = some r' → r ≠ r' := fun r hr r' hr' => by have h1 := (HVW.out.lt r hr).2; have h2 := (HOX.out.lt r' hr').1; omega
    clear hoY hb11 hcY
    refine hK.out _ _ (HSS.out _ b11) (fun hHeld => ?_)
    clear hK K
    try simp only [Act.put, List.getElem_toArray, List.getElem_cons_zero, List.getElem_cons_succ, List.setIfInBounds_toArray, List.set_cons_zero, List.set_cons_succ]
    refine wpAnyH_ready (rs := [7]) (by kernel_rfl) (by simp) ?_
    refine AllReadyH.cons rfl (fun K hK => ?_) AllReadyH.nil
    refine step_appendTs (by rfl) _ _ 30 rfl wb.heap.size Tryd.underlying30 infoStr _ SX rfl (HOX2.out.base hz9) ⟨gy, 0, none⟩ 3 cY SY rfl hlY ?f3 ?f4 ?f5 ?_
    case f3 => exact fun j x hx => by rw [addr_add]; exact HCY.out j x hx
    case f4 => rw [hlX]; omega
    case f5 => exact b11.size
    intro v12 w12 ho12 hg12 _
    have b12 : Below wb.heap.size wb w12 := b11.grown hg12 b11.size (fun r hr => Nat.le_trans hz9 (HOX2.out.lt r hr).1)
    have HVW4 := Lib.hid (HVW3.out.of_block (fun r hr => hg12.block r (HVW3.out.lt r hr).2 (fun e => hdis r hr r e.symm rfl)))
    obtain ⟨gz, cz, hvz, -, -, hcz, -⟩ := ho12.opened (by rw [List.length_append, hlX, hlY]; omega)
    rw [List.length_append, hlX, hlY] at hvz
    subst hvz
    have HCZ := Lib.hid hcz
    clear ho12 hg12 hcz
    refine hK.out _ _ (HSS.out _ b12) (fun hHeld => ?_)
    clear hK K
    try simp only [Act.put, List.getElem_toArray, List.getElem_cons_zero, List.getElem_cons_succ, List.setIfInBounds_toArray, List.set_cons_zero, List.set_cons_succ]
    refine wpAnyH_ready (rs := [8]) (by kernel_rfl) (by simp) ?_
    refine AllReadyH.cons rfl (fun K hK => ?_) AllReadyH.nil
    refine step_appendTs (by rfl) _ _ 30 rfl wb.heap.size Tryd.underlying30 infoStr _ (VL ++ WL) rfl HVW4.out ⟨gz, 0, none⟩ 6 cz (SX ++ SY) rfl ?f6 ?f7 ?f8 ?f9 ?_
    case f6 => rw [List.length_append, hlX, hlY]
    case f7 => exact fun j x hx => by rw [addr_add]; exact HCZ.out j x hx
    case f8 => rw [List.length_append, hlV, hlW]; omega
    case f9 => exact b12.size
    intro v13 w13 ho13 hg13 _
    have b13 : Below wb.heap.size wb w13 := b12.grown hg13 b12.size (fun r hr => (HVW4.out.lt r hr).1)
    obtain ⟨p13, c13, hv13⟩ := ho13.form
    rw [List.length_append, List.length_append, List.length_append, hlV, hlW, hlX, hlY] at hv13
    subst hv13
    have HST := Lib.hid ho13.strs
    clear ho13 hg13
    refine hK.out _ _ (HSS.out _ b13) (fun hHeld => ?_)
    clear hK K
    try simp only [Act.put, List.getElem_toArray, List.getElem_cons_zero, List.getElem_cons_succ, List.setIfInBounds_toArray, List.set_cons_zero, List.set_cons_succ]
    refine wpAnyH_take (i := 9) (v := ?_) rfl (by kernel_rfl) (by kernel_rfl) (by kernel_rfl) (fun _ _ _ h => h) (.inl ⟨by rfl, ?_⟩) (by assumption) ?_
    rotate_left 1
    · intro w0 hSw
      go_simp <;> with_reducible rfl
    try simp only [Act.put, List.getElem_toArray, List.getElem_cons_zero, List.getElem_cons_succ, List.setIfInBounds_toArray, List.set_cons_zero, List.set_cons_succ]
    refine wpAnyH_done (by kernel_rfl) ?_ 0
    go_wp2_with fail
    refine (HCL.out _ _ HST.out).mono ?_
    rintro z w14 ⟨rfl, hb14⟩
    have b14 : Below wb.heap.size wb w14 := b13.trans (hb14.mono b13.size)
    go_wp2
    go_ret
    exact ⟨rfl, HWB.out.trans (b14.mono HWB.out.size)⟩
theorem sumsUp2_length (l : List ByteArray) (h : l.length = 4) : (sumsUp l 2).length = 3 := by
  simp only [sumsUp, List.length_append, pairsB_length, lvlB_length, h, List.length_nil]
theorem weightS_small {l : List ByteArray} (h : weightS l ≤ 1048576) : ∀ x ∈ l, x.size ≤ 1048576 := fun x hx => by have := weightS_mem hx; omega
theorem headOne_any (n m : Nat) (a b c : ByteArray) (d e : ByteArray) (k : Nat) (d' e' : ByteArray) (k' : Nat) (va : Value) (la : List ByteArray) (vb : Value) (lb : List ByteArray) (w : World)
    (hn : n < 18446744073709551616) (hm : m < 18446744073709551616) (ha : a.size ≤ 1048576) (hb : b.size ≤ 1048576) (hc : c.size ≤ 1048576)
    (hk : k < 18446744073709551616) (hd : d.size ≤ 1048576) (he : e.size ≤ 1048576) (hk' : k' < 18446744073709551616) (hd' : d'.size ≤ 1048576) (he' : e'.size ≤ 1048576)
    (hva : Strs w va la) (hla : weightS la ≤ 1048576) (hvb : Strs w vb lb) (hlb : weightS lb ≤ 1048576) (hK : KTab w) :
    Calls Tryd.prog 4 #[.agg #[.int .u64 n, .int .u64 m, .string a, .string b, .string c], .agg #[.string d, .string e, .int .u64 k], .agg #[.string d', .string e', .int .u64 k'], va, vb] w fun x w' => x = .returned (.bool true) ∧ Below w.heap.size w w' := by
  have h1 := fun W (h : Below w.heap.size w W) => holds_any n m a b c d e k va la W hn hm hk ha hb hc hd he (hva.below h) (hK.below h)
  have h2 := fun W (h : Below w.heap.size w W) => holds_any n m a b c d' e' k' vb lb W hn hm hk' ha hb hc hd' he' (hvb.below h) (hK.below h)
  have hva' := hva
  have hvb' := hvb
  obtain ⟨pa, ca, rfl, -⟩ := hva
  obtain ⟨pb, cb, rfl, -⟩ := hvb
  cases hp : holdsB n m a b c d e k la with
  | false =>
    rw [hp] at h1
    exact one_no n m a b c d e k d' e' k' pa _ ca pb _ cb _ w hK h1 h2
  | true =>
    rw [hp] at h1
    cases hq : holdsB n m a b c d' e' k' lb with
    | false =>
      rw [hq] at h2
      exact one_yesno n m a b c d e k d' e' k' pa _ ca pb _ cb w hK h1 h2
    | true =>
      rw [hq] at h2
      rcases exec_cases d e k d' e' k' with ⟨g0, g1, g2⟩ | ⟨hne, key⟩
      · exact one_same n m a b c d e k d' e' k' pa _ ca pb _ cb w hK h1 h2 g0 g1 g2
      · obtain ⟨r1, a0, a1, rfl, c1⟩ := holdsB_parts hp
        obtain ⟨r2, b0, b1, rfl, c2⟩ := holdsB_parts hq
        have hcl := one_clash hk hk' r1 r2 c1 c2 hne
        have hx1 := execChunks_small (n := k) hd he
        have hx2 := execChunks_small (n := k') hd' he'
        have hz1 := rootB2_size (execChunks d e k) noughtB
        have hz2 := rootB2_size (execChunks d' e' k') noughtB
        have sa := weightS_small hla
        have sb := weightS_small hlb
        have hw1 := fun W (h : Below w.heap.size w W) => rway2_any (rootB 2 (execChunks d e k) noughtB) a0 a1 _ W (hva'.below h) (by omega) (sa a0 (by simp)) (sa a1 (by simp))
        have hw2 := fun W (h : Below w.heap.size w W) => rway2_any (rootB 2 (execChunks d' e' k') noughtB) b0 b1 _ W (hvb'.below h) (by omega) (sb b0 (by simp)) (sb b1 (by simp))
        have t1 := sumsUp_mem _ (padB_small 2 _ hx1) 2
        have t2 := sumsUp_mem _ (padB_small 2 _ hx2) 2
        have l1 := sumsUp2_length (padB 2 (execChunks d e k)) (padB_length 2 _ (by simp [execChunks]))
        have l2 := sumsUp2_length (padB 2 (execChunks d' e' k')) (padB_length 2 _ (by simp [execChunks]))
        refine one_other n m a b c d e k d' e' k' pa _ ca pb _ cb w hK h1 h2 _ _ _ _ (wayB (rootB 2 (execChunks d e k) noughtB) a0 a1) (wayB (rootB 2 (execChunks d' e' k') noughtB) b0 b1) (sumsUp (padB 2 (execChunks d e k)) 2) (sumsUp (padB 2 (execChunks d' e' k')) 2) rfl rfl l1 l2
          (fun W => rexecRoot_good d e k W hk r1) (fun W => rexecRoot_good d' e' k' W hk' r2) hw1 hw2 (fun W => rexecSums_any d e k W hk hd he) (fun W => rexecSums_any d' e' k' W hk' hd' he') (fun v W h => ?_) key
        refine (clash_any v _ W h (by simp only [List.length_append, l1, l2, wayB, List.length_cons, List.length_nil]; omega) (fun x hx => ?_)).mono ?_
        · have hway : ∀ (r s0 s1 : ByteArray), r.size = 32 → s0.size ≤ 1048576 → s1.size ≤ 1048576 → ∀ x ∈ wayB r s0 s1, x.size ≤ 2097152 := by
            intro r s0 s1 q0 q1 q2 x hx
            unfold wayB at hx
            simp only [List.mem_cons, List.not_mem_nil, or_false] at hx
            rcases hx with rfl | rfl
            · rw [ByteArray.size_append]; omega
            · rw [ByteArray.size_append, shaB_size]; omega
          simp only [List.mem_append] at hx
          rcases hx with (hx | hx) | (hx | hx)
          · have := hway _ _ _ hz1 (sa a0 (by simp)) (sa a1 (by simp)) x hx; omega
          · have := hway _ _ _ hz2 (sb b0 (by simp)) (sb b1 (by simp)) x hx; omega
          · have := t1 x hx; omega
          · have := t2 x hx; omega
        · rintro z w' ⟨⟨bb, rfl, hbb⟩, hb'⟩
          rw [hbb hcl]
          exact ⟨rfl, hb'⟩
end Go.Proofs.YtfbopnebfdkhdaaDoor
