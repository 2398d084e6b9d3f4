/- The walk of HeadBytes. -/
import Derived.Test.YtfbopnebfdkhdaaDoorItB
import Derived.Test.YtfbopnebfdkhdaaDoorHedB
import Derived.Test.YtfbopnebfdkhdaaDoorHedU
import Derived.Deep.MidRow
namespace Go.Proofs.YtfbopnebfdkhdaaDoor
open Go.RowKit Go.Shelf Go.Lib
attribute [local go_sem] Oper.semAt_some

/-- the next operation is a load of a variable of the type T -/
theorem load_gateH {P : Program} {ops : Array Oper} {Q : Exit → Act → World → Prop} {rest : List Oper} {a : Act} {w : World} {d : Option Tmp} {x : Operand} {ty : TypeId} {pos : String} {af : Array Edge} {g : Option (Nat × Bool)} (T : TypeId)
    (h : wpList P ops Q (Oper.mk d (Op.load T x) ty pos af g :: rest) a w) : wpList P ops Q (Oper.mk d (Op.load T x) ty pos af g :: rest) a w := h
/-- a list of cells in a new block -/
theorem range_new (w : World) (cs : List Value) (t : TypeId) : (w.alloc (.cells cs.toArray t)).rangeAt w.heap.size 0 cs := fun j v h => by
  rw [World.cell?_alloc_mark]
  simpa using h
theorem range_below {w W : World} {n b : Nat} {cs : List Value} (h : w.rangeAt b 0 cs) (hb : Below n w W) (hn : b < n) : W.rangeAt b 0 cs := fun j v hv => (hb.cell (p := ⟨b, 0 + j, none⟩) hn).trans (h j v hv)
theorem infoBoot : (Tryd.prog.info? 48).map (·.size) = some 12 := by kernel_rfl
theorem infoUpdate : (Tryd.prog.info? 52).map (·.size) = some 25 := by kernel_rfl
theorem hby_cells (cb cu : List Value) (w : World) : Below w.heap.size w ((w.alloc (.cells cb.toArray 48)).alloc (.cells cu.toArray 52)) ∧ (∀ W, Below ((w.alloc (.cells cb.toArray 48)).alloc (.cells cu.toArray 52)).heap.size ((w.alloc (.cells cb.toArray 48)).alloc (.cells cu.toArray 52)) W → W.rangeAt w.heap.size 0 cb) ∧ (∀ W, Below ((w.alloc (.cells cb.toArray 48)).alloc (.cells cu.toArray 52)).heap.size ((w.alloc (.cells cb.toArray 48)).alloc (.cells cu.toArray 52)) W → W.rangeAt (w.heap.size + 1) 0 cu) := by
  have hk : w.heap.size + 1 < ((w.alloc (.cells cb.toArray 48)).alloc (.cells cu.toArray 52)).heap.size := by simp
  have hwb : Below w.heap.size w ((w.alloc (.cells cb.toArray 48)).alloc (.cells cu.toArray 52)) := ((Below.refl w.heap.size w).alloc (Nat.le_refl _) _).alloc (by simp) _
  have b1 : Below (w.alloc (.cells cb.toArray 48)).heap.size (w.alloc (.cells cb.toArray 48)) ((w.alloc (.cells cb.toArray 48)).alloc (.cells cu.toArray 52)) := (Below.refl _ _).alloc (Nat.le_refl _) _
  refine ⟨hwb, fun W h => range_below (range_below (range_new w cb _) b1 (by simp)) h (by omega), fun W h => range_below ?_ h hk⟩
  have := range_new (w.alloc (.cells cb.toArray 48)) cu 52
  rwa [show (w.alloc (.cells cb.toArray 48)).heap.size = w.heap.size + 1 from by simp] at this
set_option maxRecDepth 100000 in
set_option maxHeartbeats 20000000 in
theorem hby_walk (cb cu : List Value) (hcb : cb.length = 12) (hcu : cu.length = 25) (s1 s2 : ByteArray) (e1 e2 : Int) (w : World) (hK : KTab w)
    (h1 : ∀ W, Below w.heap.size w W → Calls Tryd.prog 29 #[.agg cb.toArray] W fun x w' => x = .returned (.tuple #[.string s1, .int .i64 e1]) ∧ Below W.heap.size W w')
    (h2 : ∀ W, Below w.heap.size w W → Calls Tryd.prog 30 #[.agg cb.toArray] W fun x w' => x = .returned (.tuple #[.string s1, .int .i64 e1]) ∧ Below W.heap.size W w')
    (h3 : ∀ W, Below w.heap.size w W → Calls Tryd.prog 31 #[.agg cu.toArray] W fun x w' => x = .returned (.tuple #[.string s2, .int .i64 e2]) ∧ Below W.heap.size W w')
    (h4 : ∀ W, Below w.heap.size w W → Calls Tryd.prog 32 #[.agg cu.toArray] W fun x w' => x = .returned (.tuple #[.string s2, .int .i64 e2]) ∧ Below W.heap.size W w') :
    Calls Tryd.prog 7 #[.agg cb.toArray, .agg cu.toArray] w fun x w' => x = .returned (.bool true) ∧ Below w.heap.size w w' := by
  have H1 := Lib.hid h1
  have H2 := Lib.hid h2
  have H3 := Lib.hid h3
  have H4 := Lib.hid h4
  have HK := Lib.hid hK
  have HCB := Lib.hid hcb
  have HCU := Lib.hid hcu
  have hcl := hby_cells cb cu w
  clear h1 h2 h3 h4 hK hcb hcu
  obtain ⟨Ab, hAb⟩ : ∃ A, cb.toArray = A := ⟨_, rfl⟩
  obtain ⟨Au, hAu⟩ : ∃ A, cu.toArray = A := ⟨_, rfl⟩
  have HAb := Lib.hid hAb
  have HAu := Lib.hid hAu
  rw [hAb, hAu] at hcl ⊢
  rw [hAb] at H1 H2
  rw [hAu] at H3 H4
  clear hAb hAu
  go_enter Tryd.func7, Tryd.ntmps7
  go_wp2_with fail
  obtain ⟨wb, hwb⟩ : ∃ wb, ((w.alloc (.cells Ab 48)).alloc (.cells Au 52)) = wb := ⟨_, rfl⟩
  rw [hwb] at hcl ⊢
  clear hwb
  obtain ⟨hb, hS, hT⟩ := hcl
  have HWB := Lib.hid hb
  have HSB := Lib.hid hS
  have HSU := Lib.hid hT
  clear hb hS hT
  refine (shown13_any wb (HK.out.below HWB.out)).mono ?_
  rintro z w1 ⟨rfl, b1⟩
  go_wp2_with ((with_reducible refine load_gateH 48 ?_); refine wpList_load_mid rfl 48 _ rfl (w.heap.size) 0 rfl cb _ (HSB.out w1 b1) Tryd.underlying48 rfl ?i2 ?_)
  case i2 => rw [HCB.out]; exact infoBoot
  rw [HAb.out]
  go_wp2_with fail
  refine (H1.out w1 (HWB.out.trans (b1.mono HWB.out.size))).mono ?_
  rintro z w2 ⟨rfl, hb2⟩
  have b2 : Below wb.heap.size wb w2 := b1.trans (hb2.mono b1.size)
  clear hb2 b1
  go_wp2_with ((with_reducible refine load_gateH 48 ?_); refine wpList_load_mid rfl 48 _ rfl (w.heap.size) 0 rfl cb _ (HSB.out w2 b2) Tryd.underlying48 rfl ?i3 ?_)
  case i3 => rw [HCB.out]; exact infoBoot
  rw [HAb.out]
  go_wp2_with fail
  refine (H2.out w2 (HWB.out.trans (b2.mono HWB.out.size))).mono ?_
  rintro z w3 ⟨rfl, hb3⟩
  have b3 : Below wb.heap.size wb w3 := b2.trans (hb3.mono b2.size)
  clear hb3 b2
  go_wp2_with ((with_reducible refine load_gateH 52 ?_); refine wpList_load_mid rfl 52 _ rfl (w.heap.size + 1) 0 rfl cu _ (HSU.out w3 b3) Tryd.underlying52 rfl ?i4 ?_)
  case i4 => rw [HCU.out]; exact infoUpdate
  rw [HAu.out]
  go_wp2_with fail
  refine (H3.out w3 (HWB.out.trans (b3.mono HWB.out.size))).mono ?_
  rintro z w4 ⟨rfl, hb4⟩
  have b4 : Below wb.heap.size wb w4 := b3.trans (hb4.mono b3.size)
  clear hb4 b3
  go_wp2_with ((with_reducible refine load_gateH 52 ?_); refine wpList_load_mid rfl 52 _ rfl (w.heap.size + 1) 0 rfl cu _ (HSU.out w4 b4) Tryd.underlying52 rfl ?i5 ?_)
  case i5 => rw [HCU.out]; exact infoUpdate
  rw [HAu.out]
  go_wp2_with fail
  refine (H4.out w4 (HWB.out.trans (b4.mono HWB.out.size))).mono ?_
  rintro z w5 ⟨rfl, hb5⟩
  have b5 : Below wb.heap.size wb w5 := b4.trans (hb5.mono b4.size)
  clear hb5 b4
  go_wp2
  go_ret
  exact ⟨rfl, HWB.out.trans (b5.mono HWB.out.size)⟩
theorem w_itT (s : ByteArray) : (itT s).weight = s.size + 1 := by
  unfold itT Item.weight
  simp only [weightAll]
  have : s.data.toList.length = s.size := rfl
  omega
theorem w_itN (n : Nat) : (itN n).weight ≤ 9 := by
  unfold itN Item.weight
  simp only [weightAll]
  have := num_length n
  omega
theorem w_itL (l : List Item) : (itL l).weight = weightAll l + 1 := by
  unfold itL Item.weight
  simp
theorem w_itTs (l : List ByteArray) : (itTs l).weight = weightS l + 1 := by
  unfold itTs
  rw [w_itL]
  congr 1
  induction l with
  | nil => rfl
  | cons x r ih => rw [List.map_cons]; simp only [weightAll, weightS, ih, w_itT]
theorem w_light (n m : Nat) (a b c d e : ByteArray) (k : Nat) (br : List ByteArray) : (itL (lightItems n m a b c d e k br)).weight ≤ a.size + b.size + c.size + (d.size + e.size) + weightS br + 40 := by
  unfold lightItems
  rw [w_itL]
  simp only [weightAll, w_itL, w_itT, w_itTs]
  have := w_itN n
  have := w_itN m
  have := w_itN k
  omega
theorem w_comm (l : List ByteArray) (s : ByteArray) : (itL (commItems l s)).weight ≤ weightS l + s.size + 4 := by
  unfold commItems
  rw [w_itL]
  simp only [weightAll, w_itT, w_itTs]
  omega
theorem headBytes_any (nb0 mb0 : Nat) (ab0 bb0 cb0 db0 eb0 : ByteArray) (kb0 : Nat) (Vb0 : Value) (brb0 : List ByteArray) (Vb1 : Value) (brb1 : List ByteArray) (sb1 : ByteArray) (Vb2 : Value) (brb2 : List ByteArray) (nu0 mu0 : Nat) (au0 bu0 cu0 du0 eu0 : ByteArray) (ku0 : Nat) (Vu0 : Value) (bru0 : List ByteArray) (Vu1 : Value) (bru1 : List ByteArray) (su1 : ByteArray) (Vu2 : Value) (bru2 : List ByteArray) (nu3 mu3 : Nat) (au3 bu3 cu3 du3 eu3 : ByteArray) (ku3 : Nat) (Vu3 : Value) (bru3 : List ByteArray) (Vu4 : Value) (bru4 : List ByteArray) (nu5 : Nat) (su6 : ByteArray) (nu7 : Nat) (w : World) (hnb0 : nb0 < 18446744073709551616) (hmb0 : mb0 < 18446744073709551616) (hkb0 : kb0 < 18446744073709551616) (hvb0 : Strs w Vb0 brb0) (hvb1 : Strs w Vb1 brb1) (hvb2 : Strs w Vb2 brb2) (hwB : (ab0.size + bb0.size + cb0.size + (db0.size + eb0.size) + weightS brb0) + (weightS brb1 + sb1.size) + weightS brb2 ≤ 1048576) (hnu0 : nu0 < 18446744073709551616) (hmu0 : mu0 < 18446744073709551616) (hku0 : ku0 < 18446744073709551616) (hvu0 : Strs w Vu0 bru0) (hvu1 : Strs w Vu1 bru1) (hvu2 : Strs w Vu2 bru2) (hnu3 : nu3 < 18446744073709551616) (hmu3 : mu3 < 18446744073709551616) (hku3 : ku3 < 18446744073709551616) (hvu3 : Strs w Vu3 bru3) (hvu4 : Strs w Vu4 bru4) (hnu5 : nu5 < 18446744073709551616) (hnu7 : nu7 < 18446744073709551616) (hwU : (au0.size + bu0.size + cu0.size + (du0.size + eu0.size) + weightS bru0) + (weightS bru1 + su1.size) + weightS bru2 + (au3.size + bu3.size + cu3.size + (du3.size + eu3.size) + weightS bru3) + weightS bru4 + 0 + su6.size + 0 ≤ 1048576) (hK : KTab w) :
    Calls Tryd.prog 7 #[.agg #[.int .u64 nb0, .int .u64 mb0, .string ab0, .string bb0, .string cb0, .string db0, .string eb0, .int .u64 kb0, Vb0, Vb1, .string sb1, Vb2], .agg #[.int .u64 nu0, .int .u64 mu0, .string au0, .string bu0, .string cu0, .string du0, .string eu0, .int .u64 ku0, Vu0, Vu1, .string su1, Vu2, .int .u64 nu3, .int .u64 mu3, .string au3, .string bu3, .string cu3, .string du3, .string eu3, .int .u64 ku3, Vu3, Vu4, .int .u64 nu5, .string su6, .int .u64 nu7]] w fun x w' => x = .returned (.bool true) ∧ Below w.heap.size w w' := by
  have hWb0 := hvb0
  have hNb0 : brb0.length ≤ 1048576 := by have := weightS_len brb0; omega
  have hWb1 := hvb1
  have hNb1 : brb1.length ≤ 1048576 := by have := weightS_len brb1; omega
  have hWb2 := hvb2
  have hNb2 : brb2.length ≤ 1048576 := by have := weightS_len brb2; omega
  have hWu0 := hvu0
  have hNu0 : bru0.length ≤ 1048576 := by have := weightS_len bru0; omega
  have hWu1 := hvu1
  have hNu1 : bru1.length ≤ 1048576 := by have := weightS_len bru1; omega
  have hWu2 := hvu2
  have hNu2 : bru2.length ≤ 1048576 := by have := weightS_len bru2; omega
  have hWu3 := hvu3
  have hNu3 : bru3.length ≤ 1048576 := by have := weightS_len bru3; omega
  have hWu4 := hvu4
  have hNu4 : bru4.length ≤ 1048576 := by have := weightS_len bru4; omega
  have hxB : (itL (bootItems nb0 mb0 ab0 bb0 cb0 db0 eb0 kb0 brb0 brb1 sb1 brb2)).weight ≤ 1073741824 := by
    unfold bootItems
    rw [w_itL]
    simp only [weightAll, w_itTs]
    have := w_light nb0 mb0 ab0 bb0 cb0 db0 eb0 kb0 brb0
    have := w_comm brb1 sb1
    omega
  have hxU : (itL (updItems nu0 mu0 au0 bu0 cu0 du0 eu0 ku0 bru0 bru1 su1 bru2 nu3 mu3 au3 bu3 cu3 du3 eu3 ku3 bru3 bru4 nu5 su6 nu7)).weight ≤ 1073741824 := by
    unfold updItems
    rw [w_itL]
    simp only [weightAll, w_itT, w_itTs]
    have := w_light nu0 mu0 au0 bu0 cu0 du0 eu0 ku0 bru0
    have := w_comm bru1 su1
    have := w_light nu3 mu3 au3 bu3 cu3 du3 eu3 ku3 bru3
    have := w_itN nu5
    have := w_itN nu7
    omega
  obtain ⟨pb0, qb0, rfl, -⟩ := hvb0
  obtain ⟨lb0, hlb0⟩ : ∃ l, brb0.length = l := ⟨_, rfl⟩
  rw [hlb0] at hWb0 ⊢
  obtain ⟨pb1, qb1, rfl, -⟩ := hvb1
  obtain ⟨lb1, hlb1⟩ : ∃ l, brb1.length = l := ⟨_, rfl⟩
  rw [hlb1] at hWb1 ⊢
  obtain ⟨pb2, qb2, rfl, -⟩ := hvb2
  obtain ⟨lb2, hlb2⟩ : ∃ l, brb2.length = l := ⟨_, rfl⟩
  rw [hlb2] at hWb2 ⊢
  obtain ⟨pu0, qu0, rfl, -⟩ := hvu0
  obtain ⟨lu0, hlu0⟩ : ∃ l, bru0.length = l := ⟨_, rfl⟩
  rw [hlu0] at hWu0 ⊢
  obtain ⟨pu1, qu1, rfl, -⟩ := hvu1
  obtain ⟨lu1, hlu1⟩ : ∃ l, bru1.length = l := ⟨_, rfl⟩
  rw [hlu1] at hWu1 ⊢
  obtain ⟨pu2, qu2, rfl, -⟩ := hvu2
  obtain ⟨lu2, hlu2⟩ : ∃ l, bru2.length = l := ⟨_, rfl⟩
  rw [hlu2] at hWu2 ⊢
  obtain ⟨pu3, qu3, rfl, -⟩ := hvu3
  obtain ⟨lu3, hlu3⟩ : ∃ l, bru3.length = l := ⟨_, rfl⟩
  rw [hlu3] at hWu3 ⊢
  obtain ⟨pu4, qu4, rfl, -⟩ := hvu4
  obtain ⟨lu4, hlu4⟩ : ∃ l, bru4.length = l := ⟨_, rfl⟩
  rw [hlu4] at hWu4 ⊢
  have h1 := fun W (h : Below w.heap.size w W) => itBoot_any nb0 mb0 ab0 bb0 cb0 db0 eb0 kb0 pb0 lb0 qb0 brb0 pb1 lb1 qb1 brb1 sb1 pb2 lb2 qb2 brb2 W hnb0 hmb0 hkb0 (hWb0.below h) hNb0 (hWb1.below h) hNb1 (hWb2.below h) hNb2 hxB
  have h2 := fun W (h : Below w.heap.size w W) => ritBoot_any nb0 mb0 ab0 bb0 cb0 db0 eb0 kb0 pb0 lb0 qb0 brb0 pb1 lb1 qb1 brb1 sb1 pb2 lb2 qb2 brb2 W hnb0 hmb0 hkb0 (hWb0.below h) hNb0 (hWb1.below h) hNb1 (hWb2.below h) hNb2 hxB
  have h3 := fun W (h : Below w.heap.size w W) => itUpd_any nu0 mu0 au0 bu0 cu0 du0 eu0 ku0 pu0 lu0 qu0 bru0 pu1 lu1 qu1 bru1 su1 pu2 lu2 qu2 bru2 nu3 mu3 au3 bu3 cu3 du3 eu3 ku3 pu3 lu3 qu3 bru3 pu4 lu4 qu4 bru4 nu5 su6 nu7 W hnu0 hmu0 hku0 (hWu0.below h) hNu0 (hWu1.below h) hNu1 (hWu2.below h) hNu2 hnu3 hmu3 hku3 (hWu3.below h) hNu3 (hWu4.below h) hNu4 hnu5 hnu7 hxU
  have h4 := fun W (h : Below w.heap.size w W) => ritUpd_any nu0 mu0 au0 bu0 cu0 du0 eu0 ku0 pu0 lu0 qu0 bru0 pu1 lu1 qu1 bru1 su1 pu2 lu2 qu2 bru2 nu3 mu3 au3 bu3 cu3 du3 eu3 ku3 pu3 lu3 qu3 bru3 pu4 lu4 qu4 bru4 nu5 su6 nu7 W hnu0 hmu0 hku0 (hWu0.below h) hNu0 (hWu1.below h) hNu1 (hWu2.below h) hNu2 hnu3 hmu3 hku3 (hWu3.below h) hNu3 (hWu4.below h) hNu4 hnu5 hnu7 hxU
  unfold encodeV at h1 h2 h3 h4
  exact hby_walk [Value.int .u64 nb0, .int .u64 mb0, .string ab0, .string bb0, .string cb0, .string db0, .string eb0, .int .u64 kb0, .slice pb0 lb0 qb0, .slice pb1 lb1 qb1, .string sb1, .slice pb2 lb2 qb2] [Value.int .u64 nu0, .int .u64 mu0, .string au0, .string bu0, .string cu0, .string du0, .string eu0, .int .u64 ku0, .slice pu0 lu0 qu0, .slice pu1 lu1 qu1, .string su1, .slice pu2 lu2 qu2, .int .u64 nu3, .int .u64 mu3, .string au3, .string bu3, .string cu3, .string du3, .string eu3, .int .u64 ku3, .slice pu3 lu3 qu3, .slice pu4 lu4 qu4, .int .u64 nu5, .string su6, .int .u64 nu7] rfl rfl _ _ _ _ w hK h1 h2 h3 h4
end Go.Proofs.YtfbopnebfdkhdaaDoor
