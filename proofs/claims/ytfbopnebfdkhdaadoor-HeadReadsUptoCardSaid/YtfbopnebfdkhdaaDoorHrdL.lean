/- The walk of HeadReads. -/
import Derived.Test.YtfbopnebfdkhdaaDoorSamA
import Derived.Test.YtfbopnebfdkhdaaDoorQfE
import Derived.Test.YtfbopnebfdkhdaaDoorHedB
namespace Go.Proofs.YtfbopnebfdkhdaaDoor
open Go.RowKit Go.Shelf Go.Lib
attribute [local go_sem] Oper.semAt_some

theorem txsL_len (l : List Item) : (txsL l).length ≤ l.length := by
  induction l with
  | nil => exact Nat.le_refl _
  | cons x r ih =>
    rw [txsL]
    split
    · simp
    · simp only [List.length_cons]; omega
theorem tsL_len {x : Item} {N : Nat} (h : x.size ≤ N) : (tsL x).length ≤ N := by
  unfold tsL
  have h1 := txsL_len (opnL x (-1))
  have h2 : (opnL x (-1)).length ≤ x.list.length := by
    unfold opnL
    cases opnB x (-1) with
    | true => simp
    | false => exact Nat.le_refl _
  have := x.len_size
  omega
theorem wpList_load_midW {P : Program} {ops : Array Oper} {rest : List Oper} {op : Oper} {a : Act} {w : World} {Q : Exit → Act → World → Prop} (hw : Region.wanted op (yielded ops a.tmps) = true) (ty : TypeId) (x : Operand) (ho : op.op = .load ty x)
    (b o : Nat) (hx : a.eval x = .pointer (some ⟨b, o, none⟩)) (cs : List Value) (d : TypeDesc) (hc : w.rangeAt b o cs)
    (hu : P.underlying ty = some d) (hd : d.isRow = true) (hi : (P.info? ty).map (·.size) = some cs.length)
    (h : wpList P ops Q rest (a.put op.dst (.agg cs.toArray)) w) : wpList P ops Q (op :: rest) a w :=
  wpList_step fun K hK => by rw [if_pos hw]; exact wp_load_mid ty x ho b o hx cs d hc hu hd hi (hK _ _ h)
/-- what a call that reads a message gives: its cells, of which P holds, and its code -/
def ReadsAs (f : Nat) (s : ByteArray) (P : List Value → World → Prop) (c : Int) : Prop := ∀ W, Calls Tryd.prog f #[.string s] W fun e w' => ∃ cl, e = .returned (.tuple #[.agg cl.toArray, .int .i64 c]) ∧ P cl w' ∧ Below W.heap.size W w'
structure Shape (P : List Value → World → Prop) (N : Nat) : Prop where
  len : ∀ cl W, P cl W → cl.length = N
  one : ∀ cl W, P cl W → cl.toArray.all (·.oneCell') = true
  keep : ∀ cl W W', P cl W → Below W.heap.size W W' → P cl W'
set_option maxRecDepth 100000 in
set_option maxHeartbeats 12800000 in
theorem hrd_walk (s : ByteArray) (PB PU : List Value → World → Prop) (c d : Int) (hB : Shape PB 12) (hU : Shape PU 25) (h1 : ReadsAs 23 s PB c) (h2 : ReadsAs 24 s PB c) (h3 : ReadsAs 25 s PU d) (h4 : ReadsAs 26 s PU d)
    (h5 : ∀ x y W, PB x W → PB y W → Calls Tryd.prog 27 #[.agg x.toArray, .agg y.toArray] W fun e w' => e = .returned (.bool true) ∧ Below W.heap.size W w')
    (h6 : ∀ x y W, PU x W → PU y W → Calls Tryd.prog 28 #[.agg x.toArray, .agg y.toArray] W fun e w' => e = .returned (.bool true) ∧ Below W.heap.size W w') (w : World) (hK : KTab w) :
    Calls Tryd.prog 6 #[.string s] w fun e w' => e = .returned (.bool true) ∧ Below w.heap.size w w' := by
  have H1 := Lib.hid h1
  have H2 := Lib.hid h2
  have H3 := Lib.hid h3
  have H4 := Lib.hid h4
  have H5 := Lib.hid h5
  have H6 := Lib.hid h6
  have SB := Lib.hid hB
  have SU := Lib.hid hU
  have HK := Lib.hid hK
  clear h1 h2 h3 h4 h5 h6 hB hU hK
  go_enter Tryd.func6, Tryd.ntmps6
  go_wp2_with fail
  refine (shown13_any w HK.out).mono ?_
  rintro e w1 ⟨rfl, b0⟩
  go_wp2_with fail
  refine (H1.out w1).mono ?_
  rintro e w2 ⟨cl1, rfl, hp, hb⟩
  have bn := b0.trans (hb.mono b0.size)
  have hlen := SB.out.len _ _ hp
  have hone := SB.out.one _ _ hp
  have hza : HasCells (w2.alloc (.cells bootZ.toArray 48)) w2.heap.size bootZ 48 := HasCells.new _ _ _
  have hzs : HasCells ((w2.alloc (.cells bootZ.toArray 48)).setCells w2.heap.size 0 cl1) w2.heap.size cl1 48 := by
    have h := hza.sets cl1 0
    rwa [spl_full (by rw [hlen]; rfl)] at h
  obtain ⟨u1, hm⟩ : ∃ W, (w2.alloc (.cells bootZ.toArray 48)).setCells w2.heap.size 0 cl1 = W := ⟨_, rfl⟩
  have hbm : Below w2.heap.size w2 u1 := by rw [← hm]; exact ((Below.refl _ _).alloc (Nat.le_refl _) _).trans (sets_below (Nat.le_refl _) _ _ _)
  rw [hm] at hzs
  have b1 := bn.trans (hbm.mono bn.size)
  have hth : (w2.alloc (.cells bootZ.toArray 48)).there w2.heap.size 0 cl1.toArray.size := by rw [show cl1.toArray.size = 12 from hlen]; exact hza.there 0 12 (by decide)
  have hsi : (Tryd.prog.info? 48).map (·.size) = some cl1.toArray.size := by rw [show cl1.toArray.size = 12 from hlen]; exact infoBootR
  have HTH := Lib.hid hth
  have HSI := Lib.hid hsi
  have HON := Lib.hid hone
  have HM1 := Lib.hid hm
  have HQ1 := Lib.hid hzs
  have HP1 := Lib.hid (SB.out.keep _ _ _ hp hbm)
  have HL1 := Lib.hid hlen
  clear hm hzs hza hbm hth hsi hone hlen hp hb bn
  go_wp2_with ((with_reducible refine store_gate 48 ?_); refine wpList_store_mid rfl 48 _ _ rfl w2.heap.size 0 cl1.toArray rfl rfl HTH.out HSI.out HON.out ?_; rw [show (w2.alloc (.cells #[.int .u64 0, .int .u64 0, .string ⟨#[]⟩, .string ⟨#[]⟩, .string ⟨#[]⟩, .string ⟨#[]⟩, .string ⟨#[]⟩, .int .u64 0, .slice none 0 0, .slice none 0 0, .string ⟨#[]⟩, .slice none 0 0] 48)).setCells w2.heap.size 0 cl1.toArray.toList = u1 from HM1.out])
  clear HTH HSI HON
  refine (H2.out u1).mono ?_
  rintro e w3 ⟨cl2, rfl, hp, hb⟩
  have bn := b1.trans (hb.mono b1.size)
  have hlen := SB.out.len _ _ hp
  have hone := SB.out.one _ _ hp
  have hza : HasCells (w3.alloc (.cells bootZ.toArray 48)) w3.heap.size bootZ 48 := HasCells.new _ _ _
  have hzs : HasCells ((w3.alloc (.cells bootZ.toArray 48)).setCells w3.heap.size 0 cl2) w3.heap.size cl2 48 := by
    have h := hza.sets cl2 0
    rwa [spl_full (by rw [hlen]; rfl)] at h
  obtain ⟨u2, hm⟩ : ∃ W, (w3.alloc (.cells bootZ.toArray 48)).setCells w3.heap.size 0 cl2 = W := ⟨_, rfl⟩
  have hbm : Below w3.heap.size w3 u2 := by rw [← hm]; exact ((Below.refl _ _).alloc (Nat.le_refl _) _).trans (sets_below (Nat.le_refl _) _ _ _)
  rw [hm] at hzs
  have b2 := bn.trans (hbm.mono bn.size)
  have hth : (w3.alloc (.cells bootZ.toArray 48)).there w3.heap.size 0 cl2.toArray.size := by rw [show cl2.toArray.size = 12 from hlen]; exact hza.there 0 12 (by decide)
  have hsi : (Tryd.prog.info? 48).map (·.size) = some cl2.toArray.size := by rw [show cl2.toArray.size = 12 from hlen]; exact infoBootR
  have HTH := Lib.hid hth
  have HSI := Lib.hid hsi
  have HON := Lib.hid hone
  have HM2 := Lib.hid hm
  have HQ2 := Lib.hid hzs
  have HP2 := Lib.hid (SB.out.keep _ _ _ hp hbm)
  have HL2 := Lib.hid hlen
  have F2 := Lib.hid (hb.trans (hbm.mono hb.size))
  clear hm hzs hza hbm hth hsi hone hlen hp hb bn
  go_wp2_with ((with_reducible refine store_gate 48 ?_); refine wpList_store_mid rfl 48 _ _ rfl w3.heap.size 0 cl2.toArray rfl rfl HTH.out HSI.out HON.out ?_; rw [show (w3.alloc (.cells #[.int .u64 0, .int .u64 0, .string ⟨#[]⟩, .string ⟨#[]⟩, .string ⟨#[]⟩, .string ⟨#[]⟩, .string ⟨#[]⟩, .int .u64 0, .slice none 0 0, .slice none 0 0, .string ⟨#[]⟩, .slice none 0 0] 48)).setCells w3.heap.size 0 cl2.toArray.toList = u2 from HM2.out])
  clear HTH HSI HON
  refine (H3.out u2).mono ?_
  rintro e w4 ⟨cl3, rfl, hp, hb⟩
  have bn := b2.trans (hb.mono b2.size)
  have hlen := SU.out.len _ _ hp
  have hone := SU.out.one _ _ hp
  have hza : HasCells (w4.alloc (.cells updZ.toArray 52)) w4.heap.size updZ 52 := HasCells.new _ _ _
  have hzs : HasCells ((w4.alloc (.cells updZ.toArray 52)).setCells w4.heap.size 0 cl3) w4.heap.size cl3 52 := by
    have h := hza.sets cl3 0
    rwa [spl_full (by rw [hlen]; rfl)] at h
  obtain ⟨u3, hm⟩ : ∃ W, (w4.alloc (.cells updZ.toArray 52)).setCells w4.heap.size 0 cl3 = W := ⟨_, rfl⟩
  have hbm : Below w4.heap.size w4 u3 := by rw [← hm]; exact ((Below.refl _ _).alloc (Nat.le_refl _) _).trans (sets_below (Nat.le_refl _) _ _ _)
  rw [hm] at hzs
  have b3 := bn.trans (hbm.mono bn.size)
  have hth : (w4.alloc (.cells updZ.toArray 52)).there w4.heap.size 0 cl3.toArray.size := by rw [show cl3.toArray.size = 25 from hlen]; exact hza.there 0 25 (by decide)
  have hsi : (Tryd.prog.info? 52).map (·.size) = some cl3.toArray.size := by rw [show cl3.toArray.size = 25 from hlen]; exact infoUpdateR
  have HTH := Lib.hid hth
  have HSI := Lib.hid hsi
  have HON := Lib.hid hone
  have HM3 := Lib.hid hm
  have HQ3 := Lib.hid hzs
  have HP3 := Lib.hid (SU.out.keep _ _ _ hp hbm)
  have HL3 := Lib.hid hlen
  have F3 := Lib.hid (hb.trans (hbm.mono hb.size))
  clear hm hzs hza hbm hth hsi hone hlen hp hb bn
  go_wp2_with ((with_reducible refine store_gate 52 ?_); refine wpList_store_mid rfl 52 _ _ rfl w4.heap.size 0 cl3.toArray rfl rfl HTH.out HSI.out HON.out ?_; rw [show (w4.alloc (.cells #[.int .u64 0, .int .u64 0, .string ⟨#[]⟩, .string ⟨#[]⟩, .string ⟨#[]⟩, .string ⟨#[]⟩, .string ⟨#[]⟩, .int .u64 0, .slice none 0 0, .slice none 0 0, .string ⟨#[]⟩, .slice none 0 0, .int .u64 0, .int .u64 0, .string ⟨#[]⟩, .string ⟨#[]⟩, .string ⟨#[]⟩, .string ⟨#[]⟩, .string ⟨#[]⟩, .int .u64 0, .slice none 0 0, .slice none 0 0, .int .u64 0, .string ⟨#[]⟩, .int .u64 0] 52)).setCells w4.heap.size 0 cl3.toArray.toList = u3 from HM3.out])
  clear HTH HSI HON
  refine (H4.out u3).mono ?_
  rintro e w5 ⟨cl4, rfl, hp, hb⟩
  have bn := b3.trans (hb.mono b3.size)
  have hlen := SU.out.len _ _ hp
  have hone := SU.out.one _ _ hp
  have hza : HasCells (w5.alloc (.cells updZ.toArray 52)) w5.heap.size updZ 52 := HasCells.new _ _ _
  have hzs : HasCells ((w5.alloc (.cells updZ.toArray 52)).setCells w5.heap.size 0 cl4) w5.heap.size cl4 52 := by
    have h := hza.sets cl4 0
    rwa [spl_full (by rw [hlen]; rfl)] at h
  obtain ⟨u4, hm⟩ : ∃ W, (w5.alloc (.cells updZ.toArray 52)).setCells w5.heap.size 0 cl4 = W := ⟨_, rfl⟩
  have hbm : Below w5.heap.size w5 u4 := by rw [← hm]; exact ((Below.refl _ _).alloc (Nat.le_refl _) _).trans (sets_below (Nat.le_refl _) _ _ _)
  rw [hm] at hzs
  have b4 := bn.trans (hbm.mono bn.size)
  have hth : (w5.alloc (.cells updZ.toArray 52)).there w5.heap.size 0 cl4.toArray.size := by rw [show cl4.toArray.size = 25 from hlen]; exact hza.there 0 25 (by decide)
  have hsi : (Tryd.prog.info? 52).map (·.size) = some cl4.toArray.size := by rw [show cl4.toArray.size = 25 from hlen]; exact infoUpdateR
  have HTH := Lib.hid hth
  have HSI := Lib.hid hsi
  have HON := Lib.hid hone
  have HM4 := Lib.hid hm
  have HQ4 := Lib.hid hzs
  have HP4 := Lib.hid (SU.out.keep _ _ _ hp hbm)
  have HL4 := Lib.hid hlen
  have F4 := Lib.hid (hb.trans (hbm.mono hb.size))
  clear hm hzs hza hbm hth hsi hone hlen hp hb bn
  have g34 := F4.out
  have g24 := F3.out.trans (g34.mono F3.out.size)
  have g14 := F2.out.trans (g24.mono F2.out.size)
  have q1 := Lib.hid (show HasCells u4 w2.heap.size cl1 48 from (g14.block _ HQ1.out.lt).trans HQ1.out)
  have q2 := Lib.hid (show HasCells u4 w3.heap.size cl2 48 from (g24.block _ HQ2.out.lt).trans HQ2.out)
  have q3 := Lib.hid (show HasCells u4 w4.heap.size cl3 52 from (g34.block _ HQ3.out.lt).trans HQ3.out)
  have y1 := Lib.hid (SB.out.keep _ _ _ HP1.out g14)
  have y2 := Lib.hid (SB.out.keep _ _ _ HP2.out g24)
  have y3 := Lib.hid (SU.out.keep _ _ _ HP3.out g34)
  have HI1 := Lib.hid (show (Tryd.prog.info? 48).map (·.size) = some cl1.length from by rw [HL1.out]; exact infoBootR)
  have HI2 := Lib.hid (show (Tryd.prog.info? 48).map (·.size) = some cl2.length from by rw [HL2.out]; exact infoBootR)
  have HI3 := Lib.hid (show (Tryd.prog.info? 52).map (·.size) = some cl3.length from by rw [HL3.out]; exact infoUpdateR)
  have HI4 := Lib.hid (show (Tryd.prog.info? 52).map (·.size) = some cl4.length from by rw [HL4.out]; exact infoUpdateR)
  clear g34 g24 g14
  go_wp2_with (first | ((with_reducible refine store_gate 52 ?_); refine wpList_store_mid rfl 52 _ _ rfl w5.heap.size 0 cl4.toArray rfl rfl HTH.out HSI.out HON.out ?_; rw [show (w5.alloc (.cells #[.int .u64 0, .int .u64 0, .string ⟨#[]⟩, .string ⟨#[]⟩, .string ⟨#[]⟩, .string ⟨#[]⟩, .string ⟨#[]⟩, .int .u64 0, .slice none 0 0, .slice none 0 0, .string ⟨#[]⟩, .slice none 0 0, .int .u64 0, .int .u64 0, .string ⟨#[]⟩, .string ⟨#[]⟩, .string ⟨#[]⟩, .string ⟨#[]⟩, .string ⟨#[]⟩, .int .u64 0, .slice none 0 0, .slice none 0 0, .int .u64 0, .string ⟨#[]⟩, .int .u64 0] 52)).setCells w5.heap.size 0 cl4.toArray.toList = u4 from HM4.out]) | ((with_reducible refine load_gate 48 ?_); refine wpList_load_midW (by rfl) 48 _ rfl w2.heap.size 0 rfl cl1 _ q1.out.range Tryd.underlying48 rfl HI1.out ?_) | ((with_reducible refine load_gate 48 ?_); refine wpList_load_midW (by rfl) 48 _ rfl w3.heap.size 0 rfl cl2 _ q2.out.range Tryd.underlying48 rfl HI2.out ?_))
  clear HTH HSI HON
  refine (H5.out cl1 cl2 u4 y1.out y2.out).mono ?_
  rintro e w6 ⟨rfl, hb⟩
  have b5 := b4.trans (hb.mono b4.size)
  have r3 := Lib.hid (show HasCells w6 w4.heap.size cl3 52 from (hb.block _ q3.out.lt).trans q3.out)
  have r4 := Lib.hid (show HasCells w6 w5.heap.size cl4 52 from (hb.block _ HQ4.out.lt).trans HQ4.out)
  have z3 := Lib.hid (SU.out.keep _ _ _ y3.out hb)
  have z4 := Lib.hid (SU.out.keep _ _ _ HP4.out hb)
  clear hb
  go_wp2_with (first | ((with_reducible refine load_gate 52 ?_); refine wpList_load_midW (by rfl) 52 _ rfl w4.heap.size 0 rfl cl3 _ r3.out.range Tryd.underlying52 rfl HI3.out ?_) | ((with_reducible refine load_gate 52 ?_); refine wpList_load_midW (by rfl) 52 _ rfl w5.heap.size 0 rfl cl4 _ r4.out.range Tryd.underlying52 rfl HI4.out ?_))
  refine (H6.out cl3 cl4 w6 z3.out z4.out).mono ?_
  rintro e w7 ⟨rfl, hb⟩
  have b6 := b5.trans (hb.mono b5.size)
  clear hb
  go_wp2_with fail
  go_ret
  exact ⟨rfl, b6⟩
/-- the cells of a message: what its texts are -/
def bootP (n0 m0 k0 : Nat) (a0 b0 cc0 d0 e0 : ByteArray)  (s1 : ByteArray)    (l0 : Nat) (t0 : List ByteArray) (l1 : Nat) (t1 : List ByteArray) (l2 : Nat) (t2 : List ByteArray) (cl : List Value) (W : World) : Prop := ∃ (p0 p1 p2 : Option Addr) (c0 c1 c2 : Nat), cl = [.int .u64 n0, .int .u64 m0, .string a0, .string b0, .string cc0, .string d0, .string e0, .int .u64 k0, .slice p0 l0 c0, .slice p1 l1 c1, .string s1, .slice p2 l2 c2] ∧ Strs W (.slice p0 l0 c0) t0 ∧ Strs W (.slice p1 l1 c1) t1 ∧ Strs W (.slice p2 l2 c2) t2
theorem bootP_shape (n0 m0 k0 : Nat) (a0 b0 cc0 d0 e0 : ByteArray)  (s1 : ByteArray)    (l0 : Nat) (t0 : List ByteArray) (l1 : Nat) (t1 : List ByteArray) (l2 : Nat) (t2 : List ByteArray) : Shape (bootP n0 m0 k0 a0 b0 cc0 d0 e0 s1  l0 t0 l1 t1 l2 t2) 12 := by
  refine ⟨fun cl W h => ?_, fun cl W h => ?_, fun cl W W' h hb => ?_⟩
  · obtain ⟨p0, p1, p2, c0, c1, c2, rfl, h0, h1, h2⟩ := h
    rfl
  · obtain ⟨p0, p1, p2, c0, c1, c2, rfl, h0, h1, h2⟩ := h
    refine all_oneCell_toArray (fun v hv => ?_)
    simp only [List.mem_cons, List.not_mem_nil, or_false] at hv
    rcases hv with rfl | rfl | rfl | rfl | rfl | rfl | rfl | rfl | rfl | rfl | rfl | rfl <;> rfl
  · obtain ⟨p0, p1, p2, c0, c1, c2, rfl, h0, h1, h2⟩ := h
    exact ⟨_, _, _, _, _, _, rfl, h0.below hb, h1.below hb, h2.below hb⟩
theorem bootP_same (n0 m0 k0 : Nat) (a0 b0 cc0 d0 e0 : ByteArray)  (s1 : ByteArray)    (l0 : Nat) (t0 : List ByteArray) (l1 : Nat) (t1 : List ByteArray) (l2 : Nat) (t2 : List ByteArray) (hl0 : l0 ≤ 1099511627776) (hl1 : l1 ≤ 1099511627776) (hl2 : l2 ≤ 1099511627776) (x y : List Value) (W : World) (hx : bootP n0 m0 k0 a0 b0 cc0 d0 e0 s1  l0 t0 l1 t1 l2 t2 x W) (hy : bootP n0 m0 k0 a0 b0 cc0 d0 e0 s1  l0 t0 l1 t1 l2 t2 y W) : Calls Tryd.prog 27 #[.agg x.toArray, .agg y.toArray] W fun e w' => e = .returned (.bool true) ∧ Below W.heap.size W w' := by
  obtain ⟨p0, p1, p2, c0, c1, c2, rfl, h0, h1, h2⟩ := hx
  obtain ⟨p0', p1', p2', c0', c1', c2', rfl, h0', h1', h2'⟩ := hy
  exact sameBoot_any n0 m0 k0 a0 b0 cc0 d0 e0 p0 p0' l0 c0 c0' t0 s1 p1 p1' l1 c1 c1' t1 p2 p2' l2 c2 c2' t2 W h0 h0' hl0 h1 h1' hl1 h2 h2' hl2
theorem bootC_eq (X : Item) (V0 V1 V2 : Value) : bootC X V0 V1 V2 = [.int .u64 (numV (lh (bootI X 0) 0)), .int .u64 (numV (lh (bootI X 0) 1)), .string (txtB (lh (bootI X 0) 2)), .string (txtB (lh (bootI X 0) 3)), .string (txtB (lh (bootI X 0) 4)), .string (txtB (ly (bootI X 0) 0)), .string (txtB (ly (bootI X 0) 1)), .int .u64 (numV (ly (bootI X 0) 2)), V0, V1, .string (txtB (ci (bootI X 1) 1)), V2] := by
  unfold bootC
  simp only [lightC, commC, List.cons_append, List.nil_append]
/-- what both readers give of bytes -/
theorem boot_reads (s : ByteArray) (hs : s.size ≤ 1099511627776) : ∃ P c, Shape P 12 ∧ ReadsAs 23 s P c ∧ ReadsAs 24 s P c ∧
    (∀ x y W, P x W → P y W → Calls Tryd.prog 27 #[.agg x.toArray, .agg y.toArray] W fun e w' => e = .returned (.bool true) ∧ Below W.heap.size W w') := by
  have hl : s.data.toList.length ≤ 1099511627776 := hs
  have h1 := fun W => bootFrom_any s.data.toList W hl
  have h2 := fun W => rbootFrom_any s.data.toList W hl
  have hz := decode_size s.data.toList
  obtain ⟨X, hX⟩ : ∃ X, (decode s.data.toList).1 = X := ⟨_, rfl⟩
  obtain ⟨ce, hC⟩ : ∃ C, (decode s.data.toList).2 = C := ⟨_, rfl⟩
  rw [hX] at hz
  simp only [hX, hC] at h1 h2
  have hi : ∀ i, (bootI X i).size ≤ 65537 := fun i => getD_size (by omega) (fun _ hy => opnL_size hz (by omega) hy)
  cases hb : bootBad X ce with
  | true =>
    simp only [hb] at h1 h2
    refine ⟨bootP 0 0 0 ⟨#[]⟩ ⟨#[]⟩ ⟨#[]⟩ ⟨#[]⟩ ⟨#[]⟩ ⟨#[]⟩  0 [] 0 [] 0 [], 130, bootP_shape _ _ _ _ _ _ _ _ _ _ _ _ _ _ _, fun W => (h1 W).mono ?_, fun W => (h2 W).mono ?_, fun x y W => bootP_same _ _ _ _ _ _ _ _ _ _ _ _ _ _ _ (by omega) (by omega) (by omega) x y W⟩
    · rintro e w' ⟨p0, p1, p2, c0, c1, c2, rfl, hw, -⟩
      exact ⟨bootZ, rfl, ⟨none, none, none, 0, 0, 0, rfl, ⟨none, 0, rfl, Nat.le_refl _, .inl rfl⟩, ⟨none, 0, rfl, Nat.le_refl _, .inl rfl⟩, ⟨none, 0, rfl, Nat.le_refl _, .inl rfl⟩⟩, hw⟩
    · rintro e w' ⟨⟨-, rfl⟩ | ⟨h, -⟩, hw⟩
      · exact ⟨bootZ, rfl, ⟨none, none, none, 0, 0, 0, rfl, ⟨none, 0, rfl, Nat.le_refl _, .inl rfl⟩, ⟨none, 0, rfl, Nat.le_refl _, .inl rfl⟩, ⟨none, 0, rfl, Nat.le_refl _, .inl rfl⟩⟩, hw⟩
      · cases h
  | false =>
    simp only [hb] at h1 h2
    refine ⟨bootP (numV (lh (bootI X 0) 0)) (numV (lh (bootI X 0) 1)) (numV (ly (bootI X 0) 2)) (txtB (lh (bootI X 0) 2)) (txtB (lh (bootI X 0) 3)) (txtB (lh (bootI X 0) 4)) (txtB (ly (bootI X 0) 0)) (txtB (ly (bootI X 0) 1)) (txtB (ci (bootI X 1) 1))  (tsL (li (bootI X 0) 2)).length (tsL (li (bootI X 0) 2)) (tsL (ci (bootI X 1) 0)).length (tsL (ci (bootI X 1) 0)) (tsL (bootI X 2)).length (tsL (bootI X 2)), 0, bootP_shape _ _ _ _ _ _ _ _ _ _ _ _ _ _ _, fun W => (h1 W).mono ?_, fun W => (h2 W).mono ?_, fun x y W => bootP_same _ _ _ _ _ _ _ _ _ _ _ _ _ _ _ (by have := tsL_len (li_size (i := 2) (hi 0) (by omega)); omega) (by have := tsL_len (ci_size (i := 0) (hi 1) (by omega)); omega) (by have := tsL_len (hi 2); omega) x y W⟩
    · rintro e w' ⟨p0, p1, p2, c0, c1, c2, rfl, hw, h0, h1, h2⟩
      exact ⟨_, rfl, ⟨p0, p1, p2, c0, c1, c2, bootC_eq _ _ _ _, h0, h1, h2⟩, hw⟩
    · rintro e w' ⟨⟨h, -⟩ | ⟨-, p0, p1, p2, c0, c1, c2, rfl, h0, h1, h2⟩, hw⟩
      · cases h
      · exact ⟨_, rfl, ⟨p0, p1, p2, c0, c1, c2, bootC_eq _ _ _ _, h0, h1, h2⟩, hw⟩
/-- the cells of a message: what its texts are -/
def updP (n0 m0 k0 : Nat) (a0 b0 cc0 d0 e0 : ByteArray)  (s1 : ByteArray)    (n3 m3 k3 : Nat) (a3 b3 cc3 d3 e3 : ByteArray)    (n5 : Nat) (s6 : ByteArray) (n7 : Nat) (l0 : Nat) (t0 : List ByteArray) (l1 : Nat) (t1 : List ByteArray) (l2 : Nat) (t2 : List ByteArray) (l3 : Nat) (t3 : List ByteArray) (l4 : Nat) (t4 : List ByteArray) (cl : List Value) (W : World) : Prop := ∃ (p0 p1 p2 p3 p4 : Option Addr) (c0 c1 c2 c3 c4 : Nat), cl = [.int .u64 n0, .int .u64 m0, .string a0, .string b0, .string cc0, .string d0, .string e0, .int .u64 k0, .slice p0 l0 c0, .slice p1 l1 c1, .string s1, .slice p2 l2 c2, .int .u64 n3, .int .u64 m3, .string a3, .string b3, .string cc3, .string d3, .string e3, .int .u64 k3, .slice p3 l3 c3, .slice p4 l4 c4, .int .u64 n5, .string s6, .int .u64 n7] ∧ Strs W (.slice p0 l0 c0) t0 ∧ Strs W (.slice p1 l1 c1) t1 ∧ Strs W (.slice p2 l2 c2) t2 ∧ Strs W (.slice p3 l3 c3) t3 ∧ Strs W (.slice p4 l4 c4) t4
theorem updP_shape (n0 m0 k0 : Nat) (a0 b0 cc0 d0 e0 : ByteArray)  (s1 : ByteArray)    (n3 m3 k3 : Nat) (a3 b3 cc3 d3 e3 : ByteArray)    (n5 : Nat) (s6 : ByteArray) (n7 : Nat) (l0 : Nat) (t0 : List ByteArray) (l1 : Nat) (t1 : List ByteArray) (l2 : Nat) (t2 : List ByteArray) (l3 : Nat) (t3 : List ByteArray) (l4 : Nat) (t4 : List ByteArray) : Shape (updP n0 m0 k0 a0 b0 cc0 d0 e0 s1  n3 m3 k3 a3 b3 cc3 d3 e3  n5 s6 n7 l0 t0 l1 t1 l2 t2 l3 t3 l4 t4) 25 := by
  refine ⟨fun cl W h => ?_, fun cl W h => ?_, fun cl W W' h hb => ?_⟩
  · obtain ⟨p0, p1, p2, p3, p4, c0, c1, c2, c3, c4, rfl, h0, h1, h2, h3, h4⟩ := h
    rfl
  · obtain ⟨p0, p1, p2, p3, p4, c0, c1, c2, c3, c4, rfl, h0, h1, h2, h3, h4⟩ := h
    refine all_oneCell_toArray (fun v hv => ?_)
    simp only [List.mem_cons, List.not_mem_nil, or_false] at hv
    rcases hv with rfl | rfl | rfl | rfl | rfl | rfl | rfl | rfl | rfl | rfl | rfl | rfl | rfl | rfl | rfl | rfl | rfl | rfl | rfl | rfl | rfl | rfl | rfl | rfl | rfl <;> rfl
  · obtain ⟨p0, p1, p2, p3, p4, c0, c1, c2, c3, c4, rfl, h0, h1, h2, h3, h4⟩ := h
    exact ⟨_, _, _, _, _, _, _, _, _, _, rfl, h0.below hb, h1.below hb, h2.below hb, h3.below hb, h4.below hb⟩
theorem updP_same (n0 m0 k0 : Nat) (a0 b0 cc0 d0 e0 : ByteArray)  (s1 : ByteArray)    (n3 m3 k3 : Nat) (a3 b3 cc3 d3 e3 : ByteArray)    (n5 : Nat) (s6 : ByteArray) (n7 : Nat) (l0 : Nat) (t0 : List ByteArray) (l1 : Nat) (t1 : List ByteArray) (l2 : Nat) (t2 : List ByteArray) (l3 : Nat) (t3 : List ByteArray) (l4 : Nat) (t4 : List ByteArray) (hl0 : l0 ≤ 1099511627776) (hl1 : l1 ≤ 1099511627776) (hl2 : l2 ≤ 1099511627776) (hl3 : l3 ≤ 1099511627776) (hl4 : l4 ≤ 1099511627776) (x y : List Value) (W : World) (hx : updP n0 m0 k0 a0 b0 cc0 d0 e0 s1  n3 m3 k3 a3 b3 cc3 d3 e3  n5 s6 n7 l0 t0 l1 t1 l2 t2 l3 t3 l4 t4 x W) (hy : updP n0 m0 k0 a0 b0 cc0 d0 e0 s1  n3 m3 k3 a3 b3 cc3 d3 e3  n5 s6 n7 l0 t0 l1 t1 l2 t2 l3 t3 l4 t4 y W) : Calls Tryd.prog 28 #[.agg x.toArray, .agg y.toArray] W fun e w' => e = .returned (.bool true) ∧ Below W.heap.size W w' := by
  obtain ⟨p0, p1, p2, p3, p4, c0, c1, c2, c3, c4, rfl, h0, h1, h2, h3, h4⟩ := hx
  obtain ⟨p0', p1', p2', p3', p4', c0', c1', c2', c3', c4', rfl, h0', h1', h2', h3', h4'⟩ := hy
  exact sameUpd_any n0 m0 k0 a0 b0 cc0 d0 e0 p0 p0' l0 c0 c0' t0 s1 p1 p1' l1 c1 c1' t1 p2 p2' l2 c2 c2' t2 n3 m3 k3 a3 b3 cc3 d3 e3 p3 p3' l3 c3 c3' t3 p4 p4' l4 c4 c4' t4 n5 s6 n7 W h0 h0' hl0 h1 h1' hl1 h2 h2' hl2 h3 h3' hl3 h4 h4' hl4
theorem updC_eq (X : Item) (V0 V1 V2 V3 V4 : Value) : updC X V0 V1 V2 V3 V4 = [.int .u64 (numV (lh (updI X 0) 0)), .int .u64 (numV (lh (updI X 0) 1)), .string (txtB (lh (updI X 0) 2)), .string (txtB (lh (updI X 0) 3)), .string (txtB (lh (updI X 0) 4)), .string (txtB (ly (updI X 0) 0)), .string (txtB (ly (updI X 0) 1)), .int .u64 (numV (ly (updI X 0) 2)), V0, V1, .string (txtB (ci (updI X 1) 1)), V2, .int .u64 (numV (lh (updI X 3) 0)), .int .u64 (numV (lh (updI X 3) 1)), .string (txtB (lh (updI X 3) 2)), .string (txtB (lh (updI X 3) 3)), .string (txtB (lh (updI X 3) 4)), .string (txtB (ly (updI X 3) 0)), .string (txtB (ly (updI X 3) 1)), .int .u64 (numV (ly (updI X 3) 2)), V3, V4, .int .u64 (numV (updI X 5)), .string (txtB (updI X 6)), .int .u64 (numV (updI X 7))] := by
  unfold updC
  simp only [lightC, commC, List.cons_append, List.nil_append]
/-- what both readers give of bytes -/
theorem upd_reads (s : ByteArray) (hs : s.size ≤ 1099511627776) : ∃ P c, Shape P 25 ∧ ReadsAs 25 s P c ∧ ReadsAs 26 s P c ∧
    (∀ x y W, P x W → P y W → Calls Tryd.prog 28 #[.agg x.toArray, .agg y.toArray] W fun e w' => e = .returned (.bool true) ∧ Below W.heap.size W w') := by
  have hl : s.data.toList.length ≤ 1099511627776 := hs
  have h1 := fun W => updFrom_any s.data.toList W hl
  have h2 := fun W => rupdFrom_any s.data.toList W hl
  have hz := decode_size s.data.toList
  obtain ⟨X, hX⟩ : ∃ X, (decode s.data.toList).1 = X := ⟨_, rfl⟩
  obtain ⟨ce, hC⟩ : ∃ C, (decode s.data.toList).2 = C := ⟨_, rfl⟩
  rw [hX] at hz
  simp only [hX, hC] at h1 h2
  have hi : ∀ i, (updI X i).size ≤ 65537 := fun i => getD_size (by omega) (fun _ hy => opnL_size hz (by omega) hy)
  cases hb : updBad X ce with
  | true =>
    simp only [hb] at h1 h2
    refine ⟨updP 0 0 0 ⟨#[]⟩ ⟨#[]⟩ ⟨#[]⟩ ⟨#[]⟩ ⟨#[]⟩ ⟨#[]⟩  0 0 0 ⟨#[]⟩ ⟨#[]⟩ ⟨#[]⟩ ⟨#[]⟩ ⟨#[]⟩  0 ⟨#[]⟩ 0 0 [] 0 [] 0 [] 0 [] 0 [], 130, updP_shape _ _ _ _ _ _ _ _ _ _ _ _ _ _ _ _ _ _ _ _ _ _ _ _ _ _ _ _ _ _, fun W => (h1 W).mono ?_, fun W => (h2 W).mono ?_, fun x y W => updP_same _ _ _ _ _ _ _ _ _ _ _ _ _ _ _ _ _ _ _ _ _ _ _ _ _ _ _ _ _ _ (by omega) (by omega) (by omega) (by omega) (by omega) x y W⟩
    · rintro e w' ⟨p0, p1, p2, p3, p4, c0, c1, c2, c3, c4, rfl, hw, -⟩
      exact ⟨updZ, rfl, ⟨none, none, none, none, none, 0, 0, 0, 0, 0, rfl, ⟨none, 0, rfl, Nat.le_refl _, .inl rfl⟩, ⟨none, 0, rfl, Nat.le_refl _, .inl rfl⟩, ⟨none, 0, rfl, Nat.le_refl _, .inl rfl⟩, ⟨none, 0, rfl, Nat.le_refl _, .inl rfl⟩, ⟨none, 0, rfl, Nat.le_refl _, .inl rfl⟩⟩, hw⟩
    · rintro e w' ⟨⟨-, rfl⟩ | ⟨h, -⟩, hw⟩
      · exact ⟨updZ, rfl, ⟨none, none, none, none, none, 0, 0, 0, 0, 0, rfl, ⟨none, 0, rfl, Nat.le_refl _, .inl rfl⟩, ⟨none, 0, rfl, Nat.le_refl _, .inl rfl⟩, ⟨none, 0, rfl, Nat.le_refl _, .inl rfl⟩, ⟨none, 0, rfl, Nat.le_refl _, .inl rfl⟩, ⟨none, 0, rfl, Nat.le_refl _, .inl rfl⟩⟩, hw⟩
      · cases h
  | false =>
    simp only [hb] at h1 h2
    refine ⟨updP (numV (lh (updI X 0) 0)) (numV (lh (updI X 0) 1)) (numV (ly (updI X 0) 2)) (txtB (lh (updI X 0) 2)) (txtB (lh (updI X 0) 3)) (txtB (lh (updI X 0) 4)) (txtB (ly (updI X 0) 0)) (txtB (ly (updI X 0) 1)) (txtB (ci (updI X 1) 1))  (numV (lh (updI X 3) 0)) (numV (lh (updI X 3) 1)) (numV (ly (updI X 3) 2)) (txtB (lh (updI X 3) 2)) (txtB (lh (updI X 3) 3)) (txtB (lh (updI X 3) 4)) (txtB (ly (updI X 3) 0)) (txtB (ly (updI X 3) 1))  (numV (updI X 5)) (txtB (updI X 6)) (numV (updI X 7)) (tsL (li (updI X 0) 2)).length (tsL (li (updI X 0) 2)) (tsL (ci (updI X 1) 0)).length (tsL (ci (updI X 1) 0)) (tsL (updI X 2)).length (tsL (updI X 2)) (tsL (li (updI X 3) 2)).length (tsL (li (updI X 3) 2)) (tsL (updI X 4)).length (tsL (updI X 4)), 0, updP_shape _ _ _ _ _ _ _ _ _ _ _ _ _ _ _ _ _ _ _ _ _ _ _ _ _ _ _ _ _ _, fun W => (h1 W).mono ?_, fun W => (h2 W).mono ?_, fun x y W => updP_same _ _ _ _ _ _ _ _ _ _ _ _ _ _ _ _ _ _ _ _ _ _ _ _ _ _ _ _ _ _ (by have := tsL_len (li_size (i := 2) (hi 0) (by omega)); omega) (by have := tsL_len (ci_size (i := 0) (hi 1) (by omega)); omega) (by have := tsL_len (hi 2); omega) (by have := tsL_len (li_size (i := 2) (hi 3) (by omega)); omega) (by have := tsL_len (hi 4); omega) x y W⟩
    · rintro e w' ⟨p0, p1, p2, p3, p4, c0, c1, c2, c3, c4, rfl, hw, h0, h1, h2, h3, h4⟩
      exact ⟨_, rfl, ⟨p0, p1, p2, p3, p4, c0, c1, c2, c3, c4, updC_eq _ _ _ _ _ _, h0, h1, h2, h3, h4⟩, hw⟩
    · rintro e w' ⟨⟨h, -⟩ | ⟨-, p0, p1, p2, p3, p4, c0, c1, c2, c3, c4, rfl, h0, h1, h2, h3, h4⟩, hw⟩
      · cases h
      · exact ⟨_, rfl, ⟨p0, p1, p2, p3, p4, c0, c1, c2, c3, c4, updC_eq _ _ _ _ _ _, h0, h1, h2, h3, h4⟩, hw⟩
theorem headReads_any (s : ByteArray) (w : World) (hs : s.size ≤ 1048576) (hK : KTab w) : Calls Tryd.prog 6 #[.string s] w fun e w' => e = .returned (.bool true) ∧ Below w.heap.size w w' := by
  obtain ⟨PB, c, hB, h1, h2, h5⟩ := boot_reads s (by omega)
  obtain ⟨PU, d, hU, h3, h4, h6⟩ := upd_reads s (by omega)
  exact hrd_walk s PB PU c d hB hU h1 h2 h3 h4 h5 h6 w hK
end Go.Proofs.YtfbopnebfdkhdaaDoor
