/- Contract of head.BootFrom. -/
import Derived.Test.YtpfmdhcmhcoddaaGreatDoorRdF
namespace Go.Proofs.YtpfmdhcmhcoddaaGreatDoor
open Go.RowKit Go.Shelf Go.Lib
attribute [local go_sem] Oper.semAt_some

/-- one of two -/
def sel {α : Type} (b : Bool) (x y : α) : α := bif b then x else y
theorem results_cells2 {fn : Func} {p u : Tmp} {ty : TypeId} (h : fn.results = #[.cell p ty, .tmp u]) (tmps : Array Value) (w : World) (g : Nat) (cs : List Value) (d : TypeDesc) (hp : tmps.getD p undef = .pointer (some ⟨g, 0, none⟩)) (hc : w.rangeAt g 0 cs)
    (hu : Tryz.prog.underlying ty = some d) (hd : d.isRow = true) (hi : (Tryz.prog.info? ty).map (·.size) = some cs.length) : (results fn tmps).run Tryz.prog w = .ok (.tuple #[.agg cs.toArray, tmps.getD u undef]) w := by
  have hp' : tmps[p]?.getD undef = .pointer (some ⟨g, 0, none⟩) := by simpa using hp
  simp [results, h, hp', asAddr, run_loadVar_mid w g 0 ty cs d hc hu hd hi]
theorem lightC_one (x : Item) (p : Option Addr) (m c : Nat) : (lightC x (.slice p m c)).toArray.all (·.oneCell') = true := all_oneCell_toArray (fun v hv => by
  unfold lightC at hv
  simp only [List.mem_cons, List.not_mem_nil, or_false] at hv
  rcases hv with rfl | rfl | rfl | rfl | rfl | rfl | rfl | rfl | rfl <;> rfl)
theorem commC_one (x : Item) (p : Option Addr) (m c : Nat) : (commC x (.slice p m c)).toArray.all (·.oneCell') = true := all_oneCell_toArray (fun v hv => by
  unfold commC at hv
  simp only [List.mem_cons, List.not_mem_nil, or_false] at hv
  rcases hv with rfl | rfl <;> rfl)
theorem spl_length (us : List Value) : ∀ (o : Nat) (cs : List Value), (spl cs o us).length = cs.length := by
  induction us with
  | nil => exact fun _ _ => rfl
  | cons v r ih => exact fun o cs => (ih (o + 1) (cs.set o v)).trans (by simp)
/-- what BootFrom and From hold between two fields: k is the reader, q the variable -/
structure FrS (t : TypeId) (n k q : Nat) (l : List Item) (bad : Bool) (cs zs : List Value) (vs : List (Value × List ByteArray)) (w W : World) : Prop where
  rk : RdAt n W k l bad
  cq : HasCells W q cs t
  cp : HasCells W w.heap.size zs t
  bl : Below w.heap.size w W
  ss : ∀ v ∈ vs, Strs W v.1 v.2 ∧ ∀ j, v.1.ownBlock = some j → q < j
def FrD (n k q : Nat) (w : World) : Prop := w.heap.size < n ∧ n ≤ k ∧ k < q
theorem FrS.step {t : TypeId} {n k q : Nat} {l l' : List Item} {bad bad' : Bool} {cs zs : List Value} {vs : List (Value × List ByteArray)} {w W W' : World} (D : FrD n k q w) (ht : t ≠ 147) (S : FrS t n k q l bad cs zs vs w W)
    (r1 : RdAt n W' k l' bad') (e : Ext n [k] W W') : FrS t n k q l' bad' cs zs vs w W' :=
  have ⟨_, _, _⟩ := D
  ⟨r1, S.cq.ext e ht, S.cp.ext e ht, S.bl.trans (e.below S.bl.size (by simp; omega)), fun v hv => ⟨(S.ss v hv).1.ext e.c, (S.ss v hv).2⟩⟩
theorem FrS.add {t : TypeId} {n k q : Nat} {l : List Item} {bad : Bool} {cs zs : List Value} {vs : List (Value × List ByteArray)} {w W : World} (S : FrS t n k q l bad cs zs vs w W) (v : Value) (ts : List ByteArray) (h1 : Strs W v ts) (h2 : ∀ j, v.ownBlock = some j → q < j) :
    FrS t n k q l bad cs zs (vs ++ [(v, ts)]) w W :=
  ⟨S.rk, S.cq, S.cp, S.bl, fun u hu => by
    rcases List.mem_append.1 hu with hu | hu
    · exact S.ss u hu
    · simp at hu; subst hu; exact ⟨h1, h2⟩⟩
theorem FrS.sets {t : TypeId} {n k q : Nat} {l : List Item} {bad : Bool} {cs zs : List Value} {vs : List (Value × List ByteArray)} {w W : World} (D : FrD n k q w) (ht : t ≠ 118) (S : FrS t n k q l bad cs zs vs w W) (o : Nat) (us : List Value) :
    FrS t n k q l bad (spl cs o us) zs vs w (W.setCells q o us) :=
  have ⟨_, _, _⟩ := D
  have hu := Upon.sets q us o W
  ⟨S.rk.upon S.cq ht (by omega) hu (by omega), S.cq.sets us o, S.cp.upon hu (by omega), ⟨hu.os.trans S.bl.os, hu.tape.trans S.bl.tape, hu.output.trans S.bl.output, Nat.le_trans S.bl.size (Nat.le_of_eq hu.size.symm), fun j hj => (hu.block j (by omega)).trans (S.bl.block j hj)⟩,
    fun v hv => ⟨(S.ss v hv).1.upon hu (fun e => by have := (S.ss v hv).2 _ e; omega), (S.ss v hv).2⟩⟩
/-- what stands at the end: the result's block is written -/
theorem FrS.fin {t : TypeId} {n k q : Nat} {l : List Item} {bad : Bool} {cs zs : List Value} {vs : List (Value × List ByteArray)} {w W : World} (D : FrD n k q w) (S : FrS t n k q l bad cs zs vs w W) (us : List Value) :
    HasCells (W.setCells w.heap.size 0 us) w.heap.size (spl zs 0 us) t ∧ Below w.heap.size w (W.setCells w.heap.size 0 us) ∧ ∀ v ∈ vs, Strs (W.setCells w.heap.size 0 us) v.1 v.2 :=
  have ⟨_, _, _⟩ := D
  have hu := Upon.sets w.heap.size us 0 W
  ⟨S.cp.sets us 0, ⟨hu.os.trans S.bl.os, hu.tape.trans S.bl.tape, hu.output.trans S.bl.output, Nat.le_trans S.bl.size (Nat.le_of_eq hu.size.symm), fun j hj => (hu.block j (by omega)).trans (S.bl.block j hj)⟩,
    fun v hv => (S.ss v hv).1.upon hu (fun e => by have := (S.ss v hv).2 _ e; omega)⟩
/-- the items of a Boot -/
def bootI (X : Item) (i : Nat) : Item := (opnL X 3).getD i Item.none
def bootBad (X : Item) (ce : Int) : Bool := opnB X 3 || decide (ce ≠ 0) || lightB (bootI X 0) || commB (bootI X 1) || tsB (bootI X 2)
def bootC (X : Item) (V0 V1 V2 : Value) : List Value := (lightC (bootI X 0) V0) ++ (commC (bootI X 1) V1) ++ [V2]
def bootZ : List Value := [.int .u64 0, .int .u64 0, .string ⟨#[]⟩, .string ⟨#[]⟩, .string ⟨#[]⟩, .string ⟨#[]⟩, .string ⟨#[]⟩, .int .u64 0, .slice none 0 0, .slice none 0 0, .string ⟨#[]⟩, .slice none 0 0]
theorem infoBootR : (Tryz.prog.info? 102).map (·.size) = some 12 := by kernel_rfl
set_option maxRecDepth 100000 in
set_option maxHeartbeats 12800000 in
theorem bootFrom_any (s : List UInt8) (w : World) (hs : s.length ≤ 1099511627776) : Calls Tryz.prog 29 #[.string ⟨s.toArray⟩] w fun e w' => ∃ (p0 p1 p2 : Option Addr) (c0 c1 c2 : Nat),
    e = .returned (.tuple #[.agg (sel (bootBad (decode s).1 (decode s).2) bootZ (bootC (decode s).1 (.slice p0 (tsL (li (bootI (decode s).1 0) 2)).length c0) (.slice p1 (tsL (ci (bootI (decode s).1 1) 0)).length c1) (.slice p2 (tsL (bootI (decode s).1 2)).length c2))).toArray, .int .i64 (sel (bootBad (decode s).1 (decode s).2) 130 0)]) ∧ Below w.heap.size w w' ∧
    Strs w' (.slice p0 (tsL (li (bootI (decode s).1 0) 2)).length c0) (tsL (li (bootI (decode s).1 0) 2)) ∧ Strs w' (.slice p1 (tsL (ci (bootI (decode s).1 1) 0)).length c1) (tsL (ci (bootI (decode s).1 1) 0)) ∧ Strs w' (.slice p2 (tsL (bootI (decode s).1 2)).length c2) (tsL (bootI (decode s).1 2)) := by
  have H := fun W => opened_3 s W hs
  have hz := decode_size s
  obtain ⟨X, hX⟩ : ∃ X, (decode s).1 = X := ⟨_, rfl⟩
  obtain ⟨ce, hC⟩ : ∃ C, (decode s).2 = C := ⟨_, rfl⟩
  rw [hX] at hz
  rw [hX, hC] at H ⊢
  obtain ⟨i0, i1, i2, hi⟩ := opn3 X
  have q0 : (bootI X 0) = i0 := by unfold bootI; rw [hi]; rfl
  have q1 : (bootI X 1) = i1 := by unfold bootI; rw [hi]; rfl
  have q2 : (bootI X 2) = i2 := by unfold bootI; rw [hi]; rfl
  have zi : i0.size ≤ 65537 ∧ i1.size ≤ 65537 ∧ i2.size ≤ 65537 := by
    rw [← q0, ← q1, ← q2]
    refine ⟨?_, ?_, ?_⟩ <;> exact getD_size (by omega) (fun _ hy => opnL_size hz (by omega) hy)
  have hBad : bootBad X ce = (opnB X 3 || decide (ce ≠ 0) || lightB i0 || commB i1 || tsB i2) := by unfold bootBad; rw [q0, q1, q2]
  have hCs : ∀ V0 V1 V2, bootC X V0 V1 V2 = [.int .u64 (numV (lh i0 0)), .int .u64 (numV (lh i0 1)), .string (txtB (lh i0 2)), .string (txtB (lh i0 3)), .string (txtB (lh i0 4)), .string (txtB (ly i0 0)), .string (txtB (ly i0 1)), .int .u64 (numV (ly i0 2)), V0, V1, .string (txtB (ci i1 1)), V2] := fun _ _ _ => by
    unfold bootC
    rw [q0, q1]
    simp only [lightC, commC, List.cons_append, List.nil_append]
  rw [hBad]
  simp only [hCs, q0, q1, q2]
  obtain ⟨BB, hBB⟩ : ∃ v, (opnB X 3 || decide (ce ≠ 0) || lightB i0 || commB i1 || tsB i2) = v := ⟨_, rfl⟩
  rw [hBB]
  have HBB := Lib.hid hBB
  clear hBB
  have HI := Lib.hid hi
  have HZ := Lib.hid zi
  have H1 := Lib.hid H
  obtain ⟨w0, hw0⟩ : ∃ W, w.alloc (.cells bootZ.toArray 102) = W := ⟨_, rfl⟩
  have HW0 := Lib.hid hw0
  clear hi zi H hz hs hX hC hBad hCs hw0 q0 q1 q2
  go_enter Tryz.func29, Tryz.ntmps29
  go_wp2_with fail
  rw [show w.alloc (.cells #[.int .u64 0, .int .u64 0, .string ⟨#[]⟩, .string ⟨#[]⟩, .string ⟨#[]⟩, .string ⟨#[]⟩, .string ⟨#[]⟩, .int .u64 0, .slice none 0 0, .slice none 0 0, .string ⟨#[]⟩, .slice none 0 0] 102) = w0 from HW0.out]
  refine (H1.out w0).mono ?_
  rintro e w1 ⟨k, n, rfl, hn, rk, hb1⟩
  rw [HI.out] at rk
  obtain ⟨B0, hB0⟩ : ∃ v, (opnB X 3 || decide (ce ≠ 0)) = v := ⟨_, rfl⟩
  rw [hB0] at rk
  have HB0 := Lib.hid hB0
  have hz0 : w.heap.size + 1 = w0.heap.size := by rw [← HW0.out]; simp
  have hkl := rk.lt
  have hkn := rk.ge
  have D : FrD n k w1.heap.size w := ⟨by omega, hkn, hkl⟩
  have S : FrS 102 n k w1.heap.size [i0, i1, i2] B0 bootZ bootZ [] w (w1.alloc (.cells bootZ.toArray 102)) := by
    have f1 : Ext n [] w1 (w1.alloc (.cells bootZ.toArray 102)) := (Ext.refl _ _ _).alloc _
    have hp : HasCells w0 w.heap.size bootZ 102 := by rw [← HW0.out]; exact HasCells.new w _ _
    have hp1 : HasCells w1 w.heap.size bootZ 102 := (hb1.block _ (by omega)).trans hp
    have hb0 : Below w.heap.size w w0 := by rw [← HW0.out]; exact (Below.refl _ _).alloc (Nat.le_refl _) _
    exact ⟨rk.ext f1.c (by simp), HasCells.new _ _ _, hp1.ext f1 (by decide), (hb0.trans (hb1.mono (by omega))).alloc (by have := hb1.size; omega) _, by simp⟩
  obtain ⟨q, hq⟩ : ∃ q, w1.heap.size = q := ⟨_, rfl⟩
  obtain ⟨W0, hW0⟩ : ∃ W, w1.alloc (.cells bootZ.toArray 102) = W := ⟨_, rfl⟩
  rw [hq] at D S
  rw [hW0] at S
  have HW1 := Lib.hid hW0
  have HQ := Lib.hid hq
  have HD := Lib.hid D
  have HN := Lib.hid hn
  clear hn hW0 hq D hB0 hz0 hkl hkn rk hb1 H1
  go_wp2_with fail
  rw [show w1.alloc (.cells #[.int .u64 0, .int .u64 0, .string ⟨#[]⟩, .string ⟨#[]⟩, .string ⟨#[]⟩, .string ⟨#[]⟩, .string ⟨#[]⟩, .int .u64 0, .slice none 0 0, .slice none 0 0, .string ⟨#[]⟩, .slice none 0 0] 102) = W0 from HW1.out, HQ.out]
  refine (rdLight_any S.rk (by have := li_size (i := 2) HZ.out.1 (by omega); have := (li i0 2).len_size; omega)).mono ?_
  rintro e v0 ⟨p0, c0, rfl, hs, hV, r1, e1⟩
  have hlq := S.cq.lt
  have T := (S.step HD.out (by decide) r1 e1).add _ _ hs (fun j e => by cases p0 with
    | none => cases e
    | some a => have := hV a rfl; have := Option.some.inj e; omega)
  obtain ⟨B1, hB⟩ : ∃ v, (B0 || lightB i0) = v := ⟨_, rfl⟩
  rw [hB] at T
  have HB1 := Lib.hid hB
  have hql := T.cq.lt
  have HT := Lib.hid T
  have S : FrS 102 n k q [i1, i2] B1 [.int .u64 (numV (lh i0 0)), .int .u64 (numV (lh i0 1)), .string (txtB (lh i0 2)), .string (txtB (lh i0 3)), .string (txtB (lh i0 4)), .string (txtB (ly i0 0)), .string (txtB (ly i0 1)), .int .u64 (numV (ly i0 2)), .slice p0 (tsL (li i0 2)).length c0, .slice none 0 0, .string ⟨#[]⟩, .slice none 0 0] bootZ [((.slice p0 (tsL (li i0 2)).length c0), (tsL (li i0 2)))] w (v0.setCells q 0 (lightC i0 (.slice p0 (tsL (li i0 2)).length c0))) := T.sets HD.out (by decide) 0 (lightC i0 (.slice p0 (tsL (li i0 2)).length c0))
  clear hs hV r1 e1 hB T hlq
  go_wp2_with ((with_reducible refine store_gate 40 ?_); refine wpList_store_mid rfl 40 _ _ rfl q 0 (lightC i0 (.slice p0 (tsL (li i0 2)).length c0)).toArray rfl rfl (HT.out.cq.there 0 9 (Nat.le_of_ble_eq_true rfl)) infoLight (lightC_one _ _ _ _) ?_)
  clear hql HT
  refine (rdComm_any S.rk (by have := ci_size (i := 0) HZ.out.2.1 (by omega); have := (ci i1 0).len_size; omega)).mono ?_
  rintro e v1 ⟨p1, c1, rfl, hs, hV, r1, e1⟩
  have hlq := S.cq.lt
  have T := (S.step HD.out (by decide) r1 e1).add _ _ hs (fun j e => by cases p1 with
    | none => cases e
    | some a => have := hV a rfl; have := Option.some.inj e; omega)
  obtain ⟨B2, hB⟩ : ∃ v, (B1 || commB i1) = v := ⟨_, rfl⟩
  rw [hB] at T
  have HB2 := Lib.hid hB
  have hql := T.cq.lt
  have HT := Lib.hid T
  have S : FrS 102 n k q [i2] B2 [.int .u64 (numV (lh i0 0)), .int .u64 (numV (lh i0 1)), .string (txtB (lh i0 2)), .string (txtB (lh i0 3)), .string (txtB (lh i0 4)), .string (txtB (ly i0 0)), .string (txtB (ly i0 1)), .int .u64 (numV (ly i0 2)), .slice p0 (tsL (li i0 2)).length c0, .slice p1 (tsL (ci i1 0)).length c1, .string (txtB (ci i1 1)), .slice none 0 0] bootZ [((.slice p0 (tsL (li i0 2)).length c0), (tsL (li i0 2))), ((.slice p1 (tsL (ci i1 0)).length c1), (tsL (ci i1 0)))] w (v1.setCells q 9 (commC i1 (.slice p1 (tsL (ci i1 0)).length c1))) := T.sets HD.out (by decide) 9 (commC i1 (.slice p1 (tsL (ci i1 0)).length c1))
  clear hs hV r1 e1 hB T hlq
  go_wp2_with ((with_reducible refine store_gate 42 ?_); refine wpList_store_mid rfl 42 _ _ rfl q 9 (commC i1 (.slice p1 (tsL (ci i1 0)).length c1)).toArray rfl rfl (HT.out.cq.there 9 2 (Nat.le_of_ble_eq_true rfl)) infoComm (commC_one _ _ _ _) ?_)
  clear hql HT
  refine (rdTexts_any S.rk (by have := HZ.out.2.2; have := i2.len_size; omega)).mono ?_
  rintro e v2 ⟨Vx, rfl, hs, hV, r1, e1⟩
  obtain ⟨p2, c2, rfl, _⟩ := id hs
  have hlq := S.cq.lt
  have T := (S.step HD.out (by decide) r1 e1).add _ _ hs (fun j e => by have := hV j e; omega)
  obtain ⟨B3, hB⟩ : ∃ v, (B2 || tsB i2) = v := ⟨_, rfl⟩
  rw [hB] at T
  have HB3 := Lib.hid hB
  have hql := T.cq.lt
  have S : FrS 102 n k q [] B3 [.int .u64 (numV (lh i0 0)), .int .u64 (numV (lh i0 1)), .string (txtB (lh i0 2)), .string (txtB (lh i0 3)), .string (txtB (lh i0 4)), .string (txtB (ly i0 0)), .string (txtB (ly i0 1)), .int .u64 (numV (ly i0 2)), .slice p0 (tsL (li i0 2)).length c0, .slice p1 (tsL (ci i1 0)).length c1, .string (txtB (ci i1 1)), .slice p2 (tsL i2).length c2] bootZ [((.slice p0 (tsL (li i0 2)).length c0), (tsL (li i0 2))), ((.slice p1 (tsL (ci i1 0)).length c1), (tsL (ci i1 0))), ((.slice p2 (tsL i2).length c2), (tsL i2))] w (v2.setCells q 11 [.slice p2 (tsL i2).length c2]) := T.sets HD.out (by decide) 11 [.slice p2 (tsL i2).length c2]
  have cx := T.cq.cell (j := 11) rfl
  have fx := T.cq.frozen 11
  obtain ⟨ck, fk⟩ := S.rk.cells
  have hkk := S.rk.lt
  have hWl : (v2.setCells q 11 [.slice p2 (tsL i2).length c2]) = v2.setCell ⟨q, 11, none⟩ (.slice p2 (tsL i2).length c2) := rfl
  rw [hWl] at ck fk S hkk
  rw [World.size_setCell] at hkk
  obtain ⟨wl, hwl⟩ : ∃ W, v2.setCell ⟨q, 11, none⟩ (.slice p2 (tsL i2).length c2) = W := ⟨_, rfl⟩
  rw [hwl] at S
  have HWL := Lib.hid hwl
  clear hWl hwl
  have HS := Lib.hid S
  clear S hs hV r1 e1 hB T hlq
  have hfin : B3 = BB := by
    rw [← HB3.out, ← HB2.out, ← HB1.out, ← HB0.out, HBB.out]
  have HFin := Lib.hid hfin
  have hcs : HasCells wl q ([.int .u64 (numV (lh i0 0)), .int .u64 (numV (lh i0 1)), .string (txtB (lh i0 2)), .string (txtB (lh i0 3)), .string (txtB (lh i0 4)), .string (txtB (ly i0 0)), .string (txtB (ly i0 1)), .int .u64 (numV (ly i0 2)), .slice p0 (tsL (li i0 2)).length c0, .slice p1 (tsL (ci i1 0)).length c1, .string (txtB (ci i1 1)), .slice p2 (tsL i2).length c2]) 102 := HS.out.cq
  have HCs := Lib.hid hcs
  have hone : ([.int .u64 (numV (lh i0 0)), .int .u64 (numV (lh i0 1)), .string (txtB (lh i0 2)), .string (txtB (lh i0 3)), .string (txtB (lh i0 4)), .string (txtB (ly i0 0)), .string (txtB (ly i0 1)), .int .u64 (numV (ly i0 2)), .slice p0 (tsL (li i0 2)).length c0, .slice p1 (tsL (ci i1 0)).length c1, .string (txtB (ci i1 1)), .slice p2 (tsL i2).length c2] : List Value).toArray.all (·.oneCell') = true := all_oneCell_toArray (fun v hv => by
    simp only [List.mem_cons, List.not_mem_nil, or_false] at hv
    rcases hv with rfl | rfl | rfl | rfl | rfl | rfl | rfl | rfl | rfl | rfl | rfl | rfl <;> rfl)
  have hlen : ([.int .u64 (numV (lh i0 0)), .int .u64 (numV (lh i0 1)), .string (txtB (lh i0 2)), .string (txtB (lh i0 3)), .string (txtB (lh i0 4)), .string (txtB (ly i0 0)), .string (txtB (ly i0 1)), .int .u64 (numV (ly i0 2)), .slice p0 (tsL (li i0 2)).length c0, .slice p1 (tsL (ci i1 0)).length c1, .string (txtB (ci i1 1)), .slice p2 (tsL i2).length c2] : List Value).length = 12 := rfl
  obtain ⟨CS, hCS⟩ : ∃ l, ([.int .u64 (numV (lh i0 0)), .int .u64 (numV (lh i0 1)), .string (txtB (lh i0 2)), .string (txtB (lh i0 3)), .string (txtB (lh i0 4)), .string (txtB (ly i0 0)), .string (txtB (ly i0 1)), .int .u64 (numV (ly i0 2)), .slice p0 (tsL (li i0 2)).length c0, .slice p1 (tsL (ci i1 0)).length c1, .string (txtB (ci i1 1)), .slice p2 (tsL i2).length c2] : List Value) = l := ⟨_, rfl⟩
  rw [hCS] at HCs hone hlen
  have HOne := Lib.hid hone
  have HLen := Lib.hid hlen
  have HCS := Lib.hid hCS
  have hz1 : bootZ.toArray.all (·.oneCell') = true := all_oneCell_toArray (fun v hv => by
    unfold bootZ at hv
    simp only [List.mem_cons, List.not_mem_nil, or_false] at hv
    rcases hv with rfl | rfl | rfl | rfl | rfl | rfl | rfl | rfl | rfl | rfl | rfl | rfl <;> rfl)
  have HZ1 := Lib.hid hz1
  clear hfin hcs hone hlen hCS hz1
  cases B3 with
  | true =>
    go_wp2_with ((with_reducible refine store_gate 102 ?_); rw [HWL.out]; refine wpList_store_mid rfl 102 _ _ rfl w.heap.size 0 bootZ.toArray rfl rfl (HS.out.cp.there 0 12 (by decide)) infoBootR HZ1.out ?_)
    obtain ⟨Z4, Z5, Z6⟩ := HS.out.fin HD.out bootZ
    refine bodyPost_ret (results_cells2 rfl _ _ w.heap.size bootZ _ rfl Z4.range Tryz.underlying102 rfl infoBootR) rfl ?_
    rw [← HFin.out]
    exact ⟨p0, p1, p2, c0, c1, c2, rfl, Z5, Z6 ((.slice p0 (tsL (li i0 2)).length c0), (tsL (li i0 2))) (by simp), Z6 ((.slice p1 (tsL (ci i1 0)).length c1), (tsL (ci i1 0))) (by simp), Z6 ((.slice p2 (tsL i2).length c2), (tsL i2)) (by simp)⟩
  | false =>
    go_wp2_with (first | ((with_reducible refine load_gate 102 ?_); rw [HWL.out]; refine wpList_load_mid rfl 102 _ rfl q 0 rfl CS _ HCs.out.range Tryz.underlying102 rfl (by rw [HLen.out]; exact infoBootR) ?_) | ((with_reducible refine store_gate 102 ?_); refine wpList_store_mid rfl 102 _ _ rfl w.heap.size 0 CS.toArray rfl rfl (HS.out.cp.there 0 _ (by rw [List.size_toArray, HLen.out]; decide)) (by rw [List.size_toArray, HLen.out]; exact infoBootR) HOne.out ?_))
    obtain ⟨Z4, Z5, Z6⟩ := HS.out.fin HD.out CS
    have Z7 : (wl.setCells w.heap.size 0 CS).rangeAt w.heap.size 0 CS := World.rangeAt_setCells_same _ _ _ _ (HS.out.cp.there 0 _ (by rw [HLen.out]; decide))
    refine bodyPost_ret (results_cells2 rfl _ _ w.heap.size CS _ rfl Z7 Tryz.underlying102 rfl (by rw [HLen.out]; exact infoBootR)) rfl ?_
    rw [← HFin.out]
    refine ⟨p0, p1, p2, c0, c1, c2, ?_, Z5, Z6 ((.slice p0 (tsL (li i0 2)).length c0), (tsL (li i0 2))) (by simp), Z6 ((.slice p1 (tsL (ci i1 0)).length c1), (tsL (ci i1 0))) (by simp), Z6 ((.slice p2 (tsL i2).length c2), (tsL i2)) (by simp)⟩
    rw [← HCS.out]
    rfl
end Go.Proofs.YtpfmdhcmhcoddaaGreatDoor
/- Contract of head.From. -/
namespace Go.Proofs.YtpfmdhcmhcoddaaGreatDoor
open Go.RowKit Go.Shelf Go.Lib
attribute [local go_sem] Oper.semAt_some

/-- the items of a Update -/
def updI (X : Item) (i : Nat) : Item := (opnL X 8).getD i Item.none
def updBad (X : Item) (ce : Int) : Bool := opnB X 8 || decide (ce ≠ 0) || lightB (updI X 0) || commB (updI X 1) || tsB (updI X 2) || lightB (updI X 3) || tsB (updI X 4) || numB (updI X 5) || ((updI X 6)).isList || numB (updI X 7)
def updC (X : Item) (V0 V1 V2 V3 V4 : Value) : List Value := (lightC (updI X 0) V0) ++ (commC (updI X 1) V1) ++ [V2] ++ (lightC (updI X 3) V3) ++ [V4] ++ [.int .u64 (numV (updI X 5))] ++ [.string (txtB (updI X 6))] ++ [.int .u64 (numV (updI X 7))]
def updZ : List Value := [.int .u64 0, .int .u64 0, .string ⟨#[]⟩, .string ⟨#[]⟩, .string ⟨#[]⟩, .string ⟨#[]⟩, .string ⟨#[]⟩, .int .u64 0, .slice none 0 0, .slice none 0 0, .string ⟨#[]⟩, .slice none 0 0, .int .u64 0, .int .u64 0, .string ⟨#[]⟩, .string ⟨#[]⟩, .string ⟨#[]⟩, .string ⟨#[]⟩, .string ⟨#[]⟩, .int .u64 0, .slice none 0 0, .slice none 0 0, .int .u64 0, .string ⟨#[]⟩, .int .u64 0]
theorem infoUpdateR : (Tryz.prog.info? 44).map (·.size) = some 25 := by kernel_rfl
set_option maxRecDepth 100000 in
set_option maxHeartbeats 12800000 in
theorem updFrom_any (s : List UInt8) (w : World) (hs : s.length ≤ 1099511627776) : Calls Tryz.prog 32 #[.string ⟨s.toArray⟩] w fun e w' => ∃ (p0 p1 p2 p3 p4 : Option Addr) (c0 c1 c2 c3 c4 : Nat),
    e = .returned (.tuple #[.agg (sel (updBad (decode s).1 (decode s).2) updZ (updC (decode s).1 (.slice p0 (tsL (li (updI (decode s).1 0) 2)).length c0) (.slice p1 (tsL (ci (updI (decode s).1 1) 0)).length c1) (.slice p2 (tsL (updI (decode s).1 2)).length c2) (.slice p3 (tsL (li (updI (decode s).1 3) 2)).length c3) (.slice p4 (tsL (updI (decode s).1 4)).length c4))).toArray, .int .i64 (sel (updBad (decode s).1 (decode s).2) 130 0)]) ∧ Below w.heap.size w w' ∧
    Strs w' (.slice p0 (tsL (li (updI (decode s).1 0) 2)).length c0) (tsL (li (updI (decode s).1 0) 2)) ∧ Strs w' (.slice p1 (tsL (ci (updI (decode s).1 1) 0)).length c1) (tsL (ci (updI (decode s).1 1) 0)) ∧ Strs w' (.slice p2 (tsL (updI (decode s).1 2)).length c2) (tsL (updI (decode s).1 2)) ∧ Strs w' (.slice p3 (tsL (li (updI (decode s).1 3) 2)).length c3) (tsL (li (updI (decode s).1 3) 2)) ∧ Strs w' (.slice p4 (tsL (updI (decode s).1 4)).length c4) (tsL (updI (decode s).1 4)) := by
  have H := fun W => opened_8 s W hs
  have hz := decode_size s
  obtain ⟨X, hX⟩ : ∃ X, (decode s).1 = X := ⟨_, rfl⟩
  obtain ⟨ce, hC⟩ : ∃ C, (decode s).2 = C := ⟨_, rfl⟩
  rw [hX] at hz
  rw [hX, hC] at H ⊢
  obtain ⟨i0, i1, i2, i3, i4, i5, i6, i7, hi⟩ := opn8 X
  have q0 : (updI X 0) = i0 := by unfold updI; rw [hi]; rfl
  have q1 : (updI X 1) = i1 := by unfold updI; rw [hi]; rfl
  have q2 : (updI X 2) = i2 := by unfold updI; rw [hi]; rfl
  have q3 : (updI X 3) = i3 := by unfold updI; rw [hi]; rfl
  have q4 : (updI X 4) = i4 := by unfold updI; rw [hi]; rfl
  have q5 : (updI X 5) = i5 := by unfold updI; rw [hi]; rfl
  have q6 : (updI X 6) = i6 := by unfold updI; rw [hi]; rfl
  have q7 : (updI X 7) = i7 := by unfold updI; rw [hi]; rfl
  have zi : i0.size ≤ 65537 ∧ i1.size ≤ 65537 ∧ i2.size ≤ 65537 ∧ i3.size ≤ 65537 ∧ i4.size ≤ 65537 ∧ i5.size ≤ 65537 ∧ i6.size ≤ 65537 ∧ i7.size ≤ 65537 := by
    rw [← q0, ← q1, ← q2, ← q3, ← q4, ← q5, ← q6, ← q7]
    refine ⟨?_, ?_, ?_, ?_, ?_, ?_, ?_, ?_⟩ <;> exact getD_size (by omega) (fun _ hy => opnL_size hz (by omega) hy)
  have hBad : updBad X ce = (opnB X 8 || decide (ce ≠ 0) || lightB i0 || commB i1 || tsB i2 || lightB i3 || tsB i4 || numB i5 || (i6).isList || numB i7) := by unfold updBad; rw [q0, q1, q2, q3, q4, q5, q6, q7]
  have hCs : ∀ V0 V1 V2 V3 V4, updC X V0 V1 V2 V3 V4 = [.int .u64 (numV (lh i0 0)), .int .u64 (numV (lh i0 1)), .string (txtB (lh i0 2)), .string (txtB (lh i0 3)), .string (txtB (lh i0 4)), .string (txtB (ly i0 0)), .string (txtB (ly i0 1)), .int .u64 (numV (ly i0 2)), V0, V1, .string (txtB (ci i1 1)), V2, .int .u64 (numV (lh i3 0)), .int .u64 (numV (lh i3 1)), .string (txtB (lh i3 2)), .string (txtB (lh i3 3)), .string (txtB (lh i3 4)), .string (txtB (ly i3 0)), .string (txtB (ly i3 1)), .int .u64 (numV (ly i3 2)), V3, V4, .int .u64 (numV i5), .string (txtB i6), .int .u64 (numV i7)] := fun _ _ _ _ _ => by
    unfold updC
    rw [q0, q1, q3, q5, q6, q7]
    simp only [lightC, commC, List.cons_append, List.nil_append]
  rw [hBad]
  simp only [hCs, q0, q1, q2, q3, q4]
  obtain ⟨BB, hBB⟩ : ∃ v, (opnB X 8 || decide (ce ≠ 0) || lightB i0 || commB i1 || tsB i2 || lightB i3 || tsB i4 || numB i5 || (i6).isList || numB i7) = v := ⟨_, rfl⟩
  rw [hBB]
  have HBB := Lib.hid hBB
  clear hBB
  have HI := Lib.hid hi
  have HZ := Lib.hid zi
  have H1 := Lib.hid H
  obtain ⟨w0, hw0⟩ : ∃ W, w.alloc (.cells updZ.toArray 44) = W := ⟨_, rfl⟩
  have HW0 := Lib.hid hw0
  clear hi zi H hz hs hX hC hBad hCs hw0 q0 q1 q2 q3 q4 q5 q6 q7
  go_enter Tryz.func32, Tryz.ntmps32
  go_wp2_with fail
  rw [show w.alloc (.cells #[.int .u64 0, .int .u64 0, .string ⟨#[]⟩, .string ⟨#[]⟩, .string ⟨#[]⟩, .string ⟨#[]⟩, .string ⟨#[]⟩, .int .u64 0, .slice none 0 0, .slice none 0 0, .string ⟨#[]⟩, .slice none 0 0, .int .u64 0, .int .u64 0, .string ⟨#[]⟩, .string ⟨#[]⟩, .string ⟨#[]⟩, .string ⟨#[]⟩, .string ⟨#[]⟩, .int .u64 0, .slice none 0 0, .slice none 0 0, .int .u64 0, .string ⟨#[]⟩, .int .u64 0] 44) = w0 from HW0.out]
  refine (H1.out w0).mono ?_
  rintro e w1 ⟨k, n, rfl, hn, rk, hb1⟩
  rw [HI.out] at rk
  obtain ⟨B0, hB0⟩ : ∃ v, (opnB X 8 || decide (ce ≠ 0)) = v := ⟨_, rfl⟩
  rw [hB0] at rk
  have HB0 := Lib.hid hB0
  have hz0 : w.heap.size + 1 = w0.heap.size := by rw [← HW0.out]; simp
  have hkl := rk.lt
  have hkn := rk.ge
  have D : FrD n k w1.heap.size w := ⟨by omega, hkn, hkl⟩
  have S : FrS 44 n k w1.heap.size [i0, i1, i2, i3, i4, i5, i6, i7] B0 updZ updZ [] w (w1.alloc (.cells updZ.toArray 44)) := by
    have f1 : Ext n [] w1 (w1.alloc (.cells updZ.toArray 44)) := (Ext.refl _ _ _).alloc _
    have hp : HasCells w0 w.heap.size updZ 44 := by rw [← HW0.out]; exact HasCells.new w _ _
    have hp1 : HasCells w1 w.heap.size updZ 44 := (hb1.block _ (by omega)).trans hp
    have hb0 : Below w.heap.size w w0 := by rw [← HW0.out]; exact (Below.refl _ _).alloc (Nat.le_refl _) _
    exact ⟨rk.ext f1.c (by simp), HasCells.new _ _ _, hp1.ext f1 (by decide), (hb0.trans (hb1.mono (by omega))).alloc (by have := hb1.size; omega) _, by simp⟩
  obtain ⟨q, hq⟩ : ∃ q, w1.heap.size = q := ⟨_, rfl⟩
  obtain ⟨W0, hW0⟩ : ∃ W, w1.alloc (.cells updZ.toArray 44) = W := ⟨_, rfl⟩
  rw [hq] at D S
  rw [hW0] at S
  have HW1 := Lib.hid hW0
  have HQ := Lib.hid hq
  have HD := Lib.hid D
  have HN := Lib.hid hn
  clear hn hW0 hq D hB0 hz0 hkl hkn rk hb1 H1
  go_wp2_with fail
  rw [show w1.alloc (.cells #[.int .u64 0, .int .u64 0, .string ⟨#[]⟩, .string ⟨#[]⟩, .string ⟨#[]⟩, .string ⟨#[]⟩, .string ⟨#[]⟩, .int .u64 0, .slice none 0 0, .slice none 0 0, .string ⟨#[]⟩, .slice none 0 0, .int .u64 0, .int .u64 0, .string ⟨#[]⟩, .string ⟨#[]⟩, .string ⟨#[]⟩, .string ⟨#[]⟩, .string ⟨#[]⟩, .int .u64 0, .slice none 0 0, .slice none 0 0, .int .u64 0, .string ⟨#[]⟩, .int .u64 0] 44) = W0 from HW1.out, HQ.out]
  refine (rdLight_any S.rk (by have := li_size (i := 2) HZ.out.1 (by omega); have := (li i0 2).len_size; omega)).mono ?_
  rintro e v0 ⟨p0, c0, rfl, hs, hV, r1, e1⟩
  have hlq := S.cq.lt
  have T := (S.step HD.out (by decide) r1 e1).add _ _ hs (fun j e => by cases p0 with
    | none => cases e
    | some a => have := hV a rfl; have := Option.some.inj e; omega)
  obtain ⟨B1, hB⟩ : ∃ v, (B0 || lightB i0) = v := ⟨_, rfl⟩
  rw [hB] at T
  have HB1 := Lib.hid hB
  have hql := T.cq.lt
  have HT := Lib.hid T
  have S : FrS 44 n k q [i1, i2, i3, i4, i5, i6, i7] B1 [.int .u64 (numV (lh i0 0)), .int .u64 (numV (lh i0 1)), .string (txtB (lh i0 2)), .string (txtB (lh i0 3)), .string (txtB (lh i0 4)), .string (txtB (ly i0 0)), .string (txtB (ly i0 1)), .int .u64 (numV (ly i0 2)), .slice p0 (tsL (li i0 2)).length c0, .slice none 0 0, .string ⟨#[]⟩, .slice none 0 0, .int .u64 0, .int .u64 0, .string ⟨#[]⟩, .string ⟨#[]⟩, .string ⟨#[]⟩, .string ⟨#[]⟩, .string ⟨#[]⟩, .int .u64 0, .slice none 0 0, .slice none 0 0, .int .u64 0, .string ⟨#[]⟩, .int .u64 0] updZ [((.slice p0 (tsL (li i0 2)).length c0), (tsL (li i0 2)))] w (v0.setCells q 0 (lightC i0 (.slice p0 (tsL (li i0 2)).length c0))) := T.sets HD.out (by decide) 0 (lightC i0 (.slice p0 (tsL (li i0 2)).length c0))
  clear hs hV r1 e1 hB T hlq
  go_wp2_with ((with_reducible refine store_gate 40 ?_); refine wpList_store_mid rfl 40 _ _ rfl q 0 (lightC i0 (.slice p0 (tsL (li i0 2)).length c0)).toArray rfl rfl (HT.out.cq.there 0 9 (Nat.le_of_ble_eq_true rfl)) infoLight (lightC_one _ _ _ _) ?_)
  clear hql HT
  refine (rdComm_any S.rk (by have := ci_size (i := 0) HZ.out.2.1 (by omega); have := (ci i1 0).len_size; omega)).mono ?_
  rintro e v1 ⟨p1, c1, rfl, hs, hV, r1, e1⟩
  have hlq := S.cq.lt
  have T := (S.step HD.out (by decide) r1 e1).add _ _ hs (fun j e => by cases p1 with
    | none => cases e
    | some a => have := hV a rfl; have := Option.some.inj e; omega)
  obtain ⟨B2, hB⟩ : ∃ v, (B1 || commB i1) = v := ⟨_, rfl⟩
  rw [hB] at T
  have HB2 := Lib.hid hB
  have hql := T.cq.lt
  have HT := Lib.hid T
  have S : FrS 44 n k q [i2, i3, i4, i5, i6, i7] B2 [.int .u64 (numV (lh i0 0)), .int .u64 (numV (lh i0 1)), .string (txtB (lh i0 2)), .string (txtB (lh i0 3)), .string (txtB (lh i0 4)), .string (txtB (ly i0 0)), .string (txtB (ly i0 1)), .int .u64 (numV (ly i0 2)), .slice p0 (tsL (li i0 2)).length c0, .slice p1 (tsL (ci i1 0)).length c1, .string (txtB (ci i1 1)), .slice none 0 0, .int .u64 0, .int .u64 0, .string ⟨#[]⟩, .string ⟨#[]⟩, .string ⟨#[]⟩, .string ⟨#[]⟩, .string ⟨#[]⟩, .int .u64 0, .slice none 0 0, .slice none 0 0, .int .u64 0, .string ⟨#[]⟩, .int .u64 0] updZ [((.slice p0 (tsL (li i0 2)).length c0), (tsL (li i0 2))), ((.slice p1 (tsL (ci i1 0)).length c1), (tsL (ci i1 0)))] w (v1.setCells q 9 (commC i1 (.slice p1 (tsL (ci i1 0)).length c1))) := T.sets HD.out (by decide) 9 (commC i1 (.slice p1 (tsL (ci i1 0)).length c1))
  clear hs hV r1 e1 hB T hlq
  go_wp2_with ((with_reducible refine store_gate 42 ?_); refine wpList_store_mid rfl 42 _ _ rfl q 9 (commC i1 (.slice p1 (tsL (ci i1 0)).length c1)).toArray rfl rfl (HT.out.cq.there 9 2 (Nat.le_of_ble_eq_true rfl)) infoComm (commC_one _ _ _ _) ?_)
  clear hql HT
  refine (rdTexts_any S.rk (by have := HZ.out.2.2.1; have := i2.len_size; omega)).mono ?_
  rintro e v2 ⟨Vx, rfl, hs, hV, r1, e1⟩
  obtain ⟨p2, c2, rfl, _⟩ := id hs
  have hlq := S.cq.lt
  have T := (S.step HD.out (by decide) r1 e1).add _ _ hs (fun j e => by have := hV j e; omega)
  obtain ⟨B3, hB⟩ : ∃ v, (B2 || tsB i2) = v := ⟨_, rfl⟩
  rw [hB] at T
  have HB3 := Lib.hid hB
  have hql := T.cq.lt
  have S : FrS 44 n k q [i3, i4, i5, i6, i7] B3 [.int .u64 (numV (lh i0 0)), .int .u64 (numV (lh i0 1)), .string (txtB (lh i0 2)), .string (txtB (lh i0 3)), .string (txtB (lh i0 4)), .string (txtB (ly i0 0)), .string (txtB (ly i0 1)), .int .u64 (numV (ly i0 2)), .slice p0 (tsL (li i0 2)).length c0, .slice p1 (tsL (ci i1 0)).length c1, .string (txtB (ci i1 1)), .slice p2 (tsL i2).length c2, .int .u64 0, .int .u64 0, .string ⟨#[]⟩, .string ⟨#[]⟩, .string ⟨#[]⟩, .string ⟨#[]⟩, .string ⟨#[]⟩, .int .u64 0, .slice none 0 0, .slice none 0 0, .int .u64 0, .string ⟨#[]⟩, .int .u64 0] updZ [((.slice p0 (tsL (li i0 2)).length c0), (tsL (li i0 2))), ((.slice p1 (tsL (ci i1 0)).length c1), (tsL (ci i1 0))), ((.slice p2 (tsL i2).length c2), (tsL i2))] w (v2.setCells q 11 [.slice p2 (tsL i2).length c2]) := T.sets HD.out (by decide) 11 [.slice p2 (tsL i2).length c2]
  have cx := T.cq.cell (j := 11) rfl
  have fx := T.cq.frozen 11
  clear hs hV r1 e1 hB T hlq
  go_wp2_with fail
  clear cx fx hql
  refine (rdLight_any S.rk (by have := li_size (i := 2) HZ.out.2.2.2.1 (by omega); have := (li i3 2).len_size; omega)).mono ?_
  rintro e v3 ⟨p3, c3, rfl, hs, hV, r1, e1⟩
  have hlq := S.cq.lt
  have T := (S.step HD.out (by decide) r1 e1).add _ _ hs (fun j e => by cases p3 with
    | none => cases e
    | some a => have := hV a rfl; have := Option.some.inj e; omega)
  obtain ⟨B4, hB⟩ : ∃ v, (B3 || lightB i3) = v := ⟨_, rfl⟩
  rw [hB] at T
  have HB4 := Lib.hid hB
  have hql := T.cq.lt
  have HT := Lib.hid T
  have S : FrS 44 n k q [i4, i5, i6, i7] B4 [.int .u64 (numV (lh i0 0)), .int .u64 (numV (lh i0 1)), .string (txtB (lh i0 2)), .string (txtB (lh i0 3)), .string (txtB (lh i0 4)), .string (txtB (ly i0 0)), .string (txtB (ly i0 1)), .int .u64 (numV (ly i0 2)), .slice p0 (tsL (li i0 2)).length c0, .slice p1 (tsL (ci i1 0)).length c1, .string (txtB (ci i1 1)), .slice p2 (tsL i2).length c2, .int .u64 (numV (lh i3 0)), .int .u64 (numV (lh i3 1)), .string (txtB (lh i3 2)), .string (txtB (lh i3 3)), .string (txtB (lh i3 4)), .string (txtB (ly i3 0)), .string (txtB (ly i3 1)), .int .u64 (numV (ly i3 2)), .slice p3 (tsL (li i3 2)).length c3, .slice none 0 0, .int .u64 0, .string ⟨#[]⟩, .int .u64 0] updZ [((.slice p0 (tsL (li i0 2)).length c0), (tsL (li i0 2))), ((.slice p1 (tsL (ci i1 0)).length c1), (tsL (ci i1 0))), ((.slice p2 (tsL i2).length c2), (tsL i2)), ((.slice p3 (tsL (li i3 2)).length c3), (tsL (li i3 2)))] w (v3.setCells q 12 (lightC i3 (.slice p3 (tsL (li i3 2)).length c3))) := T.sets HD.out (by decide) 12 (lightC i3 (.slice p3 (tsL (li i3 2)).length c3))
  clear hs hV r1 e1 hB T hlq
  go_wp2_with ((with_reducible refine store_gate 40 ?_); refine wpList_store_mid rfl 40 _ _ rfl q 12 (lightC i3 (.slice p3 (tsL (li i3 2)).length c3)).toArray rfl rfl (HT.out.cq.there 12 9 (Nat.le_of_ble_eq_true rfl)) infoLight (lightC_one _ _ _ _) ?_)
  clear hql HT
  refine (rdTexts_any S.rk (by have := HZ.out.2.2.2.2.1; have := i4.len_size; omega)).mono ?_
  rintro e v4 ⟨Vx, rfl, hs, hV, r1, e1⟩
  obtain ⟨p4, c4, rfl, _⟩ := id hs
  have hlq := S.cq.lt
  have T := (S.step HD.out (by decide) r1 e1).add _ _ hs (fun j e => by have := hV j e; omega)
  obtain ⟨B5, hB⟩ : ∃ v, (B4 || tsB i4) = v := ⟨_, rfl⟩
  rw [hB] at T
  have HB5 := Lib.hid hB
  have hql := T.cq.lt
  have S : FrS 44 n k q [i5, i6, i7] B5 [.int .u64 (numV (lh i0 0)), .int .u64 (numV (lh i0 1)), .string (txtB (lh i0 2)), .string (txtB (lh i0 3)), .string (txtB (lh i0 4)), .string (txtB (ly i0 0)), .string (txtB (ly i0 1)), .int .u64 (numV (ly i0 2)), .slice p0 (tsL (li i0 2)).length c0, .slice p1 (tsL (ci i1 0)).length c1, .string (txtB (ci i1 1)), .slice p2 (tsL i2).length c2, .int .u64 (numV (lh i3 0)), .int .u64 (numV (lh i3 1)), .string (txtB (lh i3 2)), .string (txtB (lh i3 3)), .string (txtB (lh i3 4)), .string (txtB (ly i3 0)), .string (txtB (ly i3 1)), .int .u64 (numV (ly i3 2)), .slice p3 (tsL (li i3 2)).length c3, .slice p4 (tsL i4).length c4, .int .u64 0, .string ⟨#[]⟩, .int .u64 0] updZ [((.slice p0 (tsL (li i0 2)).length c0), (tsL (li i0 2))), ((.slice p1 (tsL (ci i1 0)).length c1), (tsL (ci i1 0))), ((.slice p2 (tsL i2).length c2), (tsL i2)), ((.slice p3 (tsL (li i3 2)).length c3), (tsL (li i3 2))), ((.slice p4 (tsL i4).length c4), (tsL i4))] w (v4.setCells q 21 [.slice p4 (tsL i4).length c4]) := T.sets HD.out (by decide) 21 [.slice p4 (tsL i4).length c4]
  have cx := T.cq.cell (j := 21) rfl
  have fx := T.cq.frozen 21
  clear hs hV r1 e1 hB T hlq
  go_wp2_with fail
  clear cx fx hql
  refine (rdNumber_one S.rk).mono ?_
  rintro e v5 ⟨rfl, r1, e1⟩
  have T := S.step HD.out (by decide) r1 e1
  obtain ⟨B6, hB⟩ : ∃ v, (B5 || numB i5) = v := ⟨_, rfl⟩
  rw [hB] at T
  have HB6 := Lib.hid hB
  have hql := T.cq.lt
  have S : FrS 44 n k q [i6, i7] B6 [.int .u64 (numV (lh i0 0)), .int .u64 (numV (lh i0 1)), .string (txtB (lh i0 2)), .string (txtB (lh i0 3)), .string (txtB (lh i0 4)), .string (txtB (ly i0 0)), .string (txtB (ly i0 1)), .int .u64 (numV (ly i0 2)), .slice p0 (tsL (li i0 2)).length c0, .slice p1 (tsL (ci i1 0)).length c1, .string (txtB (ci i1 1)), .slice p2 (tsL i2).length c2, .int .u64 (numV (lh i3 0)), .int .u64 (numV (lh i3 1)), .string (txtB (lh i3 2)), .string (txtB (lh i3 3)), .string (txtB (lh i3 4)), .string (txtB (ly i3 0)), .string (txtB (ly i3 1)), .int .u64 (numV (ly i3 2)), .slice p3 (tsL (li i3 2)).length c3, .slice p4 (tsL i4).length c4, .int .u64 (numV i5), .string ⟨#[]⟩, .int .u64 0] updZ [((.slice p0 (tsL (li i0 2)).length c0), (tsL (li i0 2))), ((.slice p1 (tsL (ci i1 0)).length c1), (tsL (ci i1 0))), ((.slice p2 (tsL i2).length c2), (tsL i2)), ((.slice p3 (tsL (li i3 2)).length c3), (tsL (li i3 2))), ((.slice p4 (tsL i4).length c4), (tsL i4))] w (v5.setCells q 22 [.int .u64 (numV i5)]) := T.sets HD.out (by decide) 22 [.int .u64 (numV i5)]
  have cx := T.cq.cell (j := 22) rfl
  have fx := T.cq.frozen 22
  clear r1 e1 hB T
  go_wp2_with fail
  clear cx fx hql
  refine (rdText_one S.rk).mono ?_
  rintro e v6 ⟨rfl, r1, e1⟩
  have T := S.step HD.out (by decide) r1 e1
  obtain ⟨B7, hB⟩ : ∃ v, (B6 || (i6).isList) = v := ⟨_, rfl⟩
  rw [hB] at T
  have HB7 := Lib.hid hB
  have hql := T.cq.lt
  have S : FrS 44 n k q [i7] B7 [.int .u64 (numV (lh i0 0)), .int .u64 (numV (lh i0 1)), .string (txtB (lh i0 2)), .string (txtB (lh i0 3)), .string (txtB (lh i0 4)), .string (txtB (ly i0 0)), .string (txtB (ly i0 1)), .int .u64 (numV (ly i0 2)), .slice p0 (tsL (li i0 2)).length c0, .slice p1 (tsL (ci i1 0)).length c1, .string (txtB (ci i1 1)), .slice p2 (tsL i2).length c2, .int .u64 (numV (lh i3 0)), .int .u64 (numV (lh i3 1)), .string (txtB (lh i3 2)), .string (txtB (lh i3 3)), .string (txtB (lh i3 4)), .string (txtB (ly i3 0)), .string (txtB (ly i3 1)), .int .u64 (numV (ly i3 2)), .slice p3 (tsL (li i3 2)).length c3, .slice p4 (tsL i4).length c4, .int .u64 (numV i5), .string (txtB i6), .int .u64 0] updZ [((.slice p0 (tsL (li i0 2)).length c0), (tsL (li i0 2))), ((.slice p1 (tsL (ci i1 0)).length c1), (tsL (ci i1 0))), ((.slice p2 (tsL i2).length c2), (tsL i2)), ((.slice p3 (tsL (li i3 2)).length c3), (tsL (li i3 2))), ((.slice p4 (tsL i4).length c4), (tsL i4))] w (v6.setCells q 23 [.string (txtB i6)]) := T.sets HD.out (by decide) 23 [.string (txtB i6)]
  have cx := T.cq.cell (j := 23) rfl
  have fx := T.cq.frozen 23
  clear r1 e1 hB T
  go_wp2_with fail
  clear cx fx hql
  refine (rdNumber_one S.rk).mono ?_
  rintro e v7 ⟨rfl, r1, e1⟩
  have T := S.step HD.out (by decide) r1 e1
  obtain ⟨B8, hB⟩ : ∃ v, (B7 || numB i7) = v := ⟨_, rfl⟩
  rw [hB] at T
  have HB8 := Lib.hid hB
  have hql := T.cq.lt
  have S : FrS 44 n k q [] B8 [.int .u64 (numV (lh i0 0)), .int .u64 (numV (lh i0 1)), .string (txtB (lh i0 2)), .string (txtB (lh i0 3)), .string (txtB (lh i0 4)), .string (txtB (ly i0 0)), .string (txtB (ly i0 1)), .int .u64 (numV (ly i0 2)), .slice p0 (tsL (li i0 2)).length c0, .slice p1 (tsL (ci i1 0)).length c1, .string (txtB (ci i1 1)), .slice p2 (tsL i2).length c2, .int .u64 (numV (lh i3 0)), .int .u64 (numV (lh i3 1)), .string (txtB (lh i3 2)), .string (txtB (lh i3 3)), .string (txtB (lh i3 4)), .string (txtB (ly i3 0)), .string (txtB (ly i3 1)), .int .u64 (numV (ly i3 2)), .slice p3 (tsL (li i3 2)).length c3, .slice p4 (tsL i4).length c4, .int .u64 (numV i5), .string (txtB i6), .int .u64 (numV i7)] updZ [((.slice p0 (tsL (li i0 2)).length c0), (tsL (li i0 2))), ((.slice p1 (tsL (ci i1 0)).length c1), (tsL (ci i1 0))), ((.slice p2 (tsL i2).length c2), (tsL i2)), ((.slice p3 (tsL (li i3 2)).length c3), (tsL (li i3 2))), ((.slice p4 (tsL i4).length c4), (tsL i4))] w (v7.setCells q 24 [.int .u64 (numV i7)]) := T.sets HD.out (by decide) 24 [.int .u64 (numV i7)]
  have cx := T.cq.cell (j := 24) rfl
  have fx := T.cq.frozen 24
  obtain ⟨ck, fk⟩ := S.rk.cells
  have hkk := S.rk.lt
  have hWl : (v7.setCells q 24 [.int .u64 (numV i7)]) = v7.setCell ⟨q, 24, none⟩ (.int .u64 (numV i7)) := rfl
  rw [hWl] at ck fk S hkk
  rw [World.size_setCell] at hkk
  obtain ⟨wl, hwl⟩ : ∃ W, v7.setCell ⟨q, 24, none⟩ (.int .u64 (numV i7)) = W := ⟨_, rfl⟩
  rw [hwl] at S
  have HWL := Lib.hid hwl
  clear hWl hwl
  have HS := Lib.hid S
  clear S r1 e1 hB T
  have hfin : B8 = BB := by
    rw [← HB8.out, ← HB7.out, ← HB6.out, ← HB5.out, ← HB4.out, ← HB3.out, ← HB2.out, ← HB1.out, ← HB0.out, HBB.out]
  have HFin := Lib.hid hfin
  have hcs : HasCells wl q ([.int .u64 (numV (lh i0 0)), .int .u64 (numV (lh i0 1)), .string (txtB (lh i0 2)), .string (txtB (lh i0 3)), .string (txtB (lh i0 4)), .string (txtB (ly i0 0)), .string (txtB (ly i0 1)), .int .u64 (numV (ly i0 2)), .slice p0 (tsL (li i0 2)).length c0, .slice p1 (tsL (ci i1 0)).length c1, .string (txtB (ci i1 1)), .slice p2 (tsL i2).length c2, .int .u64 (numV (lh i3 0)), .int .u64 (numV (lh i3 1)), .string (txtB (lh i3 2)), .string (txtB (lh i3 3)), .string (txtB (lh i3 4)), .string (txtB (ly i3 0)), .string (txtB (ly i3 1)), .int .u64 (numV (ly i3 2)), .slice p3 (tsL (li i3 2)).length c3, .slice p4 (tsL i4).length c4, .int .u64 (numV i5), .string (txtB i6), .int .u64 (numV i7)]) 44 := HS.out.cq
  have HCs := Lib.hid hcs
  have hone : ([.int .u64 (numV (lh i0 0)), .int .u64 (numV (lh i0 1)), .string (txtB (lh i0 2)), .string (txtB (lh i0 3)), .string (txtB (lh i0 4)), .string (txtB (ly i0 0)), .string (txtB (ly i0 1)), .int .u64 (numV (ly i0 2)), .slice p0 (tsL (li i0 2)).length c0, .slice p1 (tsL (ci i1 0)).length c1, .string (txtB (ci i1 1)), .slice p2 (tsL i2).length c2, .int .u64 (numV (lh i3 0)), .int .u64 (numV (lh i3 1)), .string (txtB (lh i3 2)), .string (txtB (lh i3 3)), .string (txtB (lh i3 4)), .string (txtB (ly i3 0)), .string (txtB (ly i3 1)), .int .u64 (numV (ly i3 2)), .slice p3 (tsL (li i3 2)).length c3, .slice p4 (tsL i4).length c4, .int .u64 (numV i5), .string (txtB i6), .int .u64 (numV i7)] : List Value).toArray.all (·.oneCell') = true := all_oneCell_toArray (fun v hv => by
    simp only [List.mem_cons, List.not_mem_nil, or_false] at hv
    rcases hv with rfl | rfl | rfl | rfl | rfl | rfl | rfl | rfl | rfl | rfl | rfl | rfl | rfl | rfl | rfl | rfl | rfl | rfl | rfl | rfl | rfl | rfl | rfl | rfl | rfl <;> rfl)
  have hlen : ([.int .u64 (numV (lh i0 0)), .int .u64 (numV (lh i0 1)), .string (txtB (lh i0 2)), .string (txtB (lh i0 3)), .string (txtB (lh i0 4)), .string (txtB (ly i0 0)), .string (txtB (ly i0 1)), .int .u64 (numV (ly i0 2)), .slice p0 (tsL (li i0 2)).length c0, .slice p1 (tsL (ci i1 0)).length c1, .string (txtB (ci i1 1)), .slice p2 (tsL i2).length c2, .int .u64 (numV (lh i3 0)), .int .u64 (numV (lh i3 1)), .string (txtB (lh i3 2)), .string (txtB (lh i3 3)), .string (txtB (lh i3 4)), .string (txtB (ly i3 0)), .string (txtB (ly i3 1)), .int .u64 (numV (ly i3 2)), .slice p3 (tsL (li i3 2)).length c3, .slice p4 (tsL i4).length c4, .int .u64 (numV i5), .string (txtB i6), .int .u64 (numV i7)] : List Value).length = 25 := rfl
  obtain ⟨CS, hCS⟩ : ∃ l, ([.int .u64 (numV (lh i0 0)), .int .u64 (numV (lh i0 1)), .string (txtB (lh i0 2)), .string (txtB (lh i0 3)), .string (txtB (lh i0 4)), .string (txtB (ly i0 0)), .string (txtB (ly i0 1)), .int .u64 (numV (ly i0 2)), .slice p0 (tsL (li i0 2)).length c0, .slice p1 (tsL (ci i1 0)).length c1, .string (txtB (ci i1 1)), .slice p2 (tsL i2).length c2, .int .u64 (numV (lh i3 0)), .int .u64 (numV (lh i3 1)), .string (txtB (lh i3 2)), .string (txtB (lh i3 3)), .string (txtB (lh i3 4)), .string (txtB (ly i3 0)), .string (txtB (ly i3 1)), .int .u64 (numV (ly i3 2)), .slice p3 (tsL (li i3 2)).length c3, .slice p4 (tsL i4).length c4, .int .u64 (numV i5), .string (txtB i6), .int .u64 (numV i7)] : List Value) = l := ⟨_, rfl⟩
  rw [hCS] at HCs hone hlen
  have HOne := Lib.hid hone
  have HLen := Lib.hid hlen
  have HCS := Lib.hid hCS
  have hz1 : updZ.toArray.all (·.oneCell') = true := all_oneCell_toArray (fun v hv => by
    unfold updZ at hv
    simp only [List.mem_cons, List.not_mem_nil, or_false] at hv
    rcases hv with rfl | rfl | rfl | rfl | rfl | rfl | rfl | rfl | rfl | rfl | rfl | rfl | rfl | rfl | rfl | rfl | rfl | rfl | rfl | rfl | rfl | rfl | rfl | rfl | rfl <;> rfl)
  have HZ1 := Lib.hid hz1
  clear hfin hcs hone hlen hCS hz1
  cases B8 with
  | true =>
    go_wp2_with ((with_reducible refine store_gate 44 ?_); rw [HWL.out]; refine wpList_store_mid rfl 44 _ _ rfl w.heap.size 0 updZ.toArray rfl rfl (HS.out.cp.there 0 25 (by decide)) infoUpdateR HZ1.out ?_)
    obtain ⟨Z4, Z5, Z6⟩ := HS.out.fin HD.out updZ
    refine bodyPost_ret (results_cells2 rfl _ _ w.heap.size updZ _ rfl Z4.range Tryz.underlying44 rfl infoUpdateR) rfl ?_
    rw [← HFin.out]
    exact ⟨p0, p1, p2, p3, p4, c0, c1, c2, c3, c4, rfl, Z5, Z6 ((.slice p0 (tsL (li i0 2)).length c0), (tsL (li i0 2))) (by simp), Z6 ((.slice p1 (tsL (ci i1 0)).length c1), (tsL (ci i1 0))) (by simp), Z6 ((.slice p2 (tsL i2).length c2), (tsL i2)) (by simp), Z6 ((.slice p3 (tsL (li i3 2)).length c3), (tsL (li i3 2))) (by simp), Z6 ((.slice p4 (tsL i4).length c4), (tsL i4)) (by simp)⟩
  | false =>
    go_wp2_with (first | ((with_reducible refine load_gate 44 ?_); rw [HWL.out]; refine wpList_load_mid rfl 44 _ rfl q 0 rfl CS _ HCs.out.range Tryz.underlying44 rfl (by rw [HLen.out]; exact infoUpdateR) ?_) | ((with_reducible refine store_gate 44 ?_); refine wpList_store_mid rfl 44 _ _ rfl w.heap.size 0 CS.toArray rfl rfl (HS.out.cp.there 0 _ (by rw [List.size_toArray, HLen.out]; decide)) (by rw [List.size_toArray, HLen.out]; exact infoUpdateR) HOne.out ?_))
    obtain ⟨Z4, Z5, Z6⟩ := HS.out.fin HD.out CS
    have Z7 : (wl.setCells w.heap.size 0 CS).rangeAt w.heap.size 0 CS := World.rangeAt_setCells_same _ _ _ _ (HS.out.cp.there 0 _ (by rw [HLen.out]; decide))
    refine bodyPost_ret (results_cells2 rfl _ _ w.heap.size CS _ rfl Z7 Tryz.underlying44 rfl (by rw [HLen.out]; exact infoUpdateR)) rfl ?_
    rw [← HFin.out]
    refine ⟨p0, p1, p2, p3, p4, c0, c1, c2, c3, c4, ?_, Z5, Z6 ((.slice p0 (tsL (li i0 2)).length c0), (tsL (li i0 2))) (by simp), Z6 ((.slice p1 (tsL (ci i1 0)).length c1), (tsL (ci i1 0))) (by simp), Z6 ((.slice p2 (tsL i2).length c2), (tsL i2)) (by simp), Z6 ((.slice p3 (tsL (li i3 2)).length c3), (tsL (li i3 2))) (by simp), Z6 ((.slice p4 (tsL i4).length c4), (tsL i4)) (by simp)⟩
    rw [← HCS.out]
    rfl
end Go.Proofs.YtpfmdhcmhcoddaaGreatDoor
