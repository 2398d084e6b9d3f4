/- What the walks take: MvA. -/
import Derived.Test.YtlelgbmbmajfmaaGreatDoorS10
import Derived.Test.YtlelgbmbmajfmaaGreatDoorS27
import Derived.Test.YtlelgbmbmajfmaaGreatDoorS29
namespace Go.Proofs.YtlelgbmbmajfmaaGreatDoor
open Go.RowKit Go.Shelf Go.Lib
attribute [local go_sem] Oper.semAt_some
theorem run_lookB {o : Oper} {a : Act} {w : World} {m x : Operand} (ho : o.op = .lookup 99 m x false) {B : Nat} {F : ByteArray → Option Nat} {s : ByteArray} (hm : a.eval m = .map (some B)) (hx : a.eval x = .string s) (h : MapV IsStr w B (strF (wdV F))) : (execOp a.eval o).run Tryz.prog w = .ok (.value (.agg #[.int .u64 (limb ((F s).getD 0) 0), .int .u64 (limb ((F s).getD 0) 1), .int .u64 (limb ((F s).getD 0) 2), .int .u64 (limb ((F s).getD 0) 3)])) w := by
  have e := look_bl h s
  simp only [execOp, ho, hm, hx, Sem.run_bind, e, Result.andThen]
  rfl
/-- what Move captures: the state, from whom, to whom, how much -/
structure CapM (w : World) (B : Nat) (a b : ByteArray) (n : Nat) (W : World) : Prop where
  s : HasCells W w.heap.size [.pointer (some ⟨B + 6, 0, none⟩)] 45
  a : HasCells W (w.heap.size + 1) [.string a] 9
  b : HasCells W (w.heap.size + 2) [.string b] 9
  n : HasCells W (w.heap.size + 3) [.int .u64 (limb n 0), .int .u64 (limb n 1), .int .u64 (limb n 2), .int .u64 (limb n 3)] 24
  size : w.heap.size + 4 ≤ W.heap.size
theorem CapM.after {w W W' : World} {B : Nat} {a b : ByteArray} {n : Nat} (h : CapM w B a b n W) (hb : Below W.heap.size W W') : CapM w B a b n W' := ⟨h.s.after hb, h.a.after hb, h.b.after hb, h.n.after hb, Nat.le_trans h.size hb.size⟩
theorem CapM.kept {w W W' : World} {B : Nat} {a b : ByteArray} {n : Nat} (h : CapM w B a b n W) (hk : ∀ q, w.heap.size ≤ q → q < w.heap.size + 4 → W'.heap[q]? = W.heap[q]?) (hs : W'.heap.size = W.heap.size) : CapM w B a b n W' :=
  ⟨h.s.kept (hk _ (by omega) (by omega)), h.a.kept (hk _ (by omega) (by omega)), h.b.kept (hk _ (by omega) (by omega)), h.n.kept (hk _ (by omega) (by omega)), by rw [hs]; exact h.size⟩
/-- what a change of a state may turn: its own blocks, what is new -/
structure StUp (B : Nat) (w w' : World) : Prop where
  below : Below B w w'
  rest : ∀ q, B + 6 < q → q < w.heap.size → w'.heap[q]? = w.heap[q]?
theorem StUp.of {B : Nat} {w w' : World} (h : Below w.heap.size w w') (hB : B ≤ w.heap.size) : StUp B w w' := ⟨h.mono hB, fun q _ hq => h.block q hq⟩
theorem StUp.next {B : Nat} {w w1 w2 : World} (h : StUp B w w1) (hB : B ≤ w.heap.size) (hb : Below w1.heap.size w1 w2) : StUp B w w2 :=
  ⟨h.below.trans (hb.mono (Nat.le_trans hB h.below.size)), fun q h1 h2 => (hb.block q (Nat.lt_of_lt_of_le h2 h.below.size)).trans (h.rest q h1 h2)⟩
theorem StUp.put {B r : Nat} {w w1 : World} (h : StUp B w w1) (h1 : B ≤ r) (h2 : r ≤ B + 6) (o : Obj) : StUp B w (w1.putObj r o) :=
  ⟨below_put h.below h1 o, fun q h3 h4 => (World.putObj_heap_other (by omega)).trans (h.rest q h3 h4)⟩
theorem StUp.set {B : Nat} {w w1 : World} (h : StUp B w w1) (j : Nat) (v : Value) : StUp B w (w1.setCell ⟨B + 6, j, none⟩ v) :=
  ⟨cellSet h.below (by omega) j v, fun q h3 h4 => (Below.heap_setCell w1 ⟨B + 6, j, none⟩ v q (by simp only; omega)).trans (h.rest q h3 h4)⟩
theorem StUp.trans {B : Nat} {w w1 w2 : World} (h : StUp B w w1) (k : StUp B w1 w2) : StUp B w w2 :=
  ⟨h.below.trans k.below, fun q h1 h2 => (k.rest q h1 (Nat.lt_of_lt_of_le h2 h.below.size)).trans (h.rest q h1 h2)⟩
theorem infoFn : (Tryz.prog.info? 1).map (fun i => (i.zero, i.size, i.bytes)) = some (some .nilFunc, 1, 8) := by kernel_rfl
theorem run_appendU (w : World) (ad : Addr) (c : Nat) (fv : Value) (hn : w.cell? ad = some fv) (h1 : fv.oneCell' = true) (ty : TypeId) :
    ∃ v' w', (Builtin.append_ #[103, 103] ty #[.slice none 0 0, .slice (some ad) 1 c]).run Tryz.prog w = .ok v' w' ∧ (∃ p n c, v' = .slice p n c) ∧ Below w.heap.size w w' := by
  obtain ⟨i0, hi0, hz0, hz1, hz2⟩ := info_parts infoFn
  obtain ⟨v', w', hr, h2, h3, _, _⟩ := run_append_own_at (P := Tryz.prog) w w.heap.size 103 ty 1 i0 _ 1 8 Tryz.underlying103 hi0 hz0 hz1 hz2 rfl (by omega) (.slice none 0 0) 0 [] (World.ownsRow_nil _ _ _ _) ad 1 c [fv] rfl (fun j u hj => by
      match j, hj with
      | 0, hj => cases hj; exact hn)
    (fun u hu => by rw [List.mem_singleton] at hu; subst hu; exact h1) (by unfold maxLen; omega) (by omega) (Nat.le_refl _)
  refine ⟨v', w', hr, ?_, ⟨h3.os, h3.tape, h3.output, h3.size, fun k hk => h3.block k hk (fun e => by cases e)⟩⟩
  obtain ⟨_, ⟨rfl, _⟩ | ⟨g, cap, cur, rfl, _⟩⟩ := h2
  · exact ⟨_, _, _, rfl⟩
  · exact ⟨_, _, _, rfl⟩
theorem step_appendU {ops : Array Oper} {o : Oper} {a : Act} {w : World} {K : Act → World → Prop} {Q : Exit → Act → World → Prop} {E : Prop} (hw : Region.wanted o (yielded ops a.tmps) = true) (s x : Operand)
    (ho : o.op = .call { callee := .builtin .append, args := #[s, x], argTypes := #[103, 103] }) (hs : a.eval s = .slice none 0 0) (ad : Addr) (c : Nat) (fv : Value) (hx : a.eval x = .slice (some ad) 1 c) (hn : w.cell? ad = some fv) (h1 : fv.oneCell' = true)
    (hK : ∀ p n c w', Below w.heap.size w w' → K (a.put o.dst (.slice p n c)) w') : if Region.wanted o (yielded ops a.tmps) = true then Oper.wp Tryz.prog o a w K Q else E := by
  rw [if_pos hw]
  obtain ⟨v', w', hrun, ⟨p, n, c', rfl⟩, hb⟩ := run_appendU w ad c fv hn h1 o.type
  unfold Oper.wp
  simp [execOp, ho, resolve, invoke, builtin, hs, hx, hrun, Result.andThen]
  exact hK p n c' w' hb
def capW (w : World) (B : Nat) (a b : ByteArray) (n : Nat) : World := (((w.alloc (.cells #[.pointer (some ⟨B + 6, 0, none⟩)] 45)).alloc (.cells #[.string a] 9)).alloc (.cells #[.string b] 9)).alloc (.cells #[.int .u64 (limb n 0), .int .u64 (limb n 1), .int .u64 (limb n 2), .int .u64 (limb n 3)] 24)
theorem cap_at (w : World) (B : Nat) (a b : ByteArray) (n : Nat) : CapM w B a b n (capW w B a b n) ∧ Below w.heap.size w (capW w B a b n) := by
  have e : ∀ (W : World) (o : Obj), (W.alloc o).heap.size = W.heap.size + 1 := fun W o => World.size_alloc _ _
  refine ⟨⟨?_, ?_, ?_, ?_, ?_⟩, ?_⟩
  · exact (((HasCells.new w [.pointer (some ⟨B + 6, 0, none⟩)] 45).alloc _).alloc _).alloc _
  · have h := HasCells.new (w.alloc (.cells #[.pointer (some ⟨B + 6, 0, none⟩)] 45)) [.string a] 9
    rw [e] at h
    exact (h.alloc _).alloc _
  · have h := HasCells.new ((w.alloc (.cells #[.pointer (some ⟨B + 6, 0, none⟩)] 45)).alloc (.cells #[.string a] 9)) [.string b] 9
    rw [e, e] at h
    exact h.alloc _
  · have h := HasCells.new (((w.alloc (.cells #[.pointer (some ⟨B + 6, 0, none⟩)] 45)).alloc (.cells #[.string a] 9)).alloc (.cells #[.string b] 9)) [.int .u64 (limb n 0), .int .u64 (limb n 1), .int .u64 (limb n 2), .int .u64 (limb n 3)] 24
    rw [e, e, e] at h
    exact h
  · unfold capW
    rw [e, e, e, e]
    omega
  · unfold capW
    exact ((((Below.refl _ w).alloc (Nat.le_refl _) _).alloc (by rw [e]; omega) _).alloc (by rw [e, e]; omega) _).alloc (by rw [e, e, e]; omega) _
theorem word1 (w : World) (v : Nat) : ∃ W, (w.alloc (.cells #[.int .u64 0, .int .u64 0, .int .u64 0, .int .u64 0] 24)).setCells w.heap.size 0 [.int .u64 (limb v 0), .int .u64 (limb v 1), .int .u64 (limb v 2), .int .u64 (limb v 3)] = W ∧ HasCells W w.heap.size [.int .u64 (limb v 0), .int .u64 (limb v 1), .int .u64 (limb v 2), .int .u64 (limb v 3)] 24 ∧ Below w.heap.size w W :=
  ⟨_, rfl, (HasCells.new w [.int .u64 0, .int .u64 0, .int .u64 0, .int .u64 0] 24).whole rfl, below_sets (Nat.le_refl _) _ _ _ ((Below.refl _ _).alloc (Nat.le_refl _) _)⟩
set_option maxRecDepth 100000 in
set_option maxHeartbeats 6400000 in
theorem move_poor (B : Nat) (S : StE) (a b : ByteArray) (n : Nat) (w : World) (hs : StAt B w S) (hok : ∀ k x, S.kn x = some k → KnOk k) (ka kb : KnE) (ha : S.kn a = some ka) (hb : S.kn b = some kb) (hless : lessB ((S.bl a).getD 0) n = true) :
    Calls Tryz.prog 58 #[.pointer (some ⟨B + 6, 0, none⟩), .string a, .string b, .agg #[.int .u64 (limb n 0), .int .u64 (limb n 1), .int .u64 (limb n 2), .int .u64 (limb n 3)]] w fun e w' => e = .returned (.int .i64 191) ∧ Below w.heap.size w w' := by
  have hlt := hs.lt
  have hcap := cap_at w B a b n
  obtain ⟨w1, hw1⟩ : ∃ W, capW w B a b n = W := ⟨_, rfl⟩
  rw [hw1] at hcap
  have HC1 := Lib.hid hcap.1
  have HB1 := Lib.hid hcap.2
  have HS1 := Lib.hid (hs.after hcap.2)
  have c4 := hcap.1.s.cell (j := 0) rfl
  have c5 := hcap.1.a.cell (j := 0) rfl
  have HW1 := Lib.hid hw1
  have na : balN S a = (S.bl a).getD 0 := by unfold balN; rw [ha]
  have nb : balN S b = (S.bl b).getD 0 := by unfold balN; rw [hb]
  have fa : findN S a = 0 := by unfold findN; rw [ha]
  have fb : findN S b = 0 := by unfold findN; rw [hb]
  have HBA := Lib.hid (fun W (h : StAt B W S) => balance_any B S a W h (fun k hk => hok k a hk))
  have HBB := Lib.hid (fun W (h : StAt B W S) => balance_any B S b W h (fun k hk => hok k b hk))
  rw [na, fa] at HBA
  rw [nb, fb] at HBB
  obtain ⟨x, hx⟩ : ∃ x, (S.bl a).getD 0 = x := ⟨_, rfl⟩
  obtain ⟨y, hy⟩ : ∃ y, (S.bl b).getD 0 = y := ⟨_, rfl⟩
  rw [hx] at HBA hless
  rw [hy] at HBB
  have HX := Lib.hid hx
  have HY := Lib.hid hy
  have HLE := Lib.hid (fun W => less_any x n W)
  rw [hless] at HLE
  unfold capW at hw1
  have HW1 := Lib.hid hw1
  clear hs hcap hw1 ha hb na nb fa fb hok hless hx hy
  go_enter Tryz.func58, Tryz.ntmps58
  go_wp2_with (rw [HW1.out])
  refine (HBA.out _ HS1.out).mono ?_
  rintro e b2 ⟨rfl, hb2⟩
  obtain ⟨w2, hd2, ht2, hbd2⟩ := word1 b2 x
  have HD2 := Lib.hid hd2
  have HT2 := Lib.hid ht2
  have HN2 := Lib.hid (HasCells.new b2 [.int .u64 0, .int .u64 0, .int .u64 0, .int .u64 0] 24)
  have hbb := hb2.trans (hbd2.mono hb2.size)
  have HC2 := Lib.hid (HC1.out.after hbb)
  have HB2 := Lib.hid (HB1.out.trans (hbb.mono HB1.out.size))
  have HS2 := Lib.hid (HS1.out.after hbb)
  have HQ2 := Lib.hid (show w.heap.size + 4 ≤ b2.heap.size from Nat.le_trans HC1.out.size hb2.size)
  clear hd2 ht2 hb2 hbd2 hbb c4 c5
  have c4 := HC2.out.s.cell (j := 0) rfl
  have c6 := HC2.out.b.cell (j := 0) rfl
  go_wp2_with ((with_reducible refine store_gateK 24 ?_); refine wpList_store_mid rfl 24 _ _ rfl b2.heap.size 0 #[.int .u64 (limb x 0), .int .u64 (limb x 1), .int .u64 (limb x 2), .int .u64 (limb x 3)] rfl rfl (HN2.out.there 0 _ (Nat.le_refl _)) infoW (oneW x) ?_; rw [show ((#[.int .u64 (limb x 0), .int .u64 (limb x 1), .int .u64 (limb x 2), .int .u64 (limb x 3)] : Array Value)).toList = ([.int .u64 (limb x 0), .int .u64 (limb x 1), .int .u64 (limb x 2), .int .u64 (limb x 3)] : List Value) from rfl, HD2.out])
  refine (HBB.out _ HS2.out).mono ?_
  rintro e b3 ⟨rfl, hb3⟩
  obtain ⟨w3, hd3, ht3, hbd3⟩ := word1 b3 y
  have HD3 := Lib.hid hd3
  have HN3 := Lib.hid (HasCells.new b3 [.int .u64 0, .int .u64 0, .int .u64 0, .int .u64 0] 24)
  have hbb := hb3.trans (hbd3.mono hb3.size)
  have HT3 := Lib.hid (HT2.out.after hbb)
  have HC3 := Lib.hid (HC2.out.after hbb)
  have HB3 := Lib.hid (HB2.out.trans (hbb.mono HB2.out.size))
  have HS3 := Lib.hid (HS2.out.after hbb)
  clear hd3 ht3 hb3 hbd3 hbb c4 c6
  go_wp2_with (first | ((with_reducible refine store_gateK 24 ?_); refine wpList_store_mid rfl 24 _ _ rfl b3.heap.size 0 #[.int .u64 (limb y 0), .int .u64 (limb y 1), .int .u64 (limb y 2), .int .u64 (limb y 3)] rfl rfl (HN3.out.there 0 _ (Nat.le_refl _)) infoW (oneW y) ?_; rw [show ((#[.int .u64 (limb y 0), .int .u64 (limb y 1), .int .u64 (limb y 2), .int .u64 (limb y 3)] : Array Value)).toList = ([.int .u64 (limb y 0), .int .u64 (limb y 1), .int .u64 (limb y 2), .int .u64 (limb y 3)] : List Value) from rfl, HD3.out]) | ((with_reducible refine load_gateK 24 ?_); first | refine wpList_load_midK rfl 24 _ rfl b2.heap.size 0 rfl [.int .u64 (limb x 0), .int .u64 (limb x 1), .int .u64 (limb x 2), .int .u64 (limb x 3)] _ HT3.out.range Tryz.underlying24 rfl infoW ?_ | refine wpList_load_midK rfl 24 _ rfl (w.heap.size + 3) 0 rfl [.int .u64 (limb n 0), .int .u64 (limb n 1), .int .u64 (limb n 2), .int .u64 (limb n 3)] _ HC3.out.n.range Tryz.underlying24 rfl infoW ?_))
  refine (show Calls _ _ _ _ _ from HLE.out _).mono ?_
  rintro e w4 ⟨rfl, hb4⟩
  have HC4 := Lib.hid (HC3.out.after hb4)
  have HB4 := Lib.hid (HB3.out.trans (hb4.mono HB3.out.size))
  have HS4 := Lib.hid (HS3.out.after hb4)
  clear hb4
  go_wp2
  go_ret
  exact ⟨rfl, HB4.out⟩
set_option maxRecDepth 100000 in
set_option maxHeartbeats 12800000 in
theorem move_rich (B : Nat) (S : StE) (a b : ByteArray) (n : Nat) (w : World) (hs : StAt B w S) (hok : ∀ k x, S.kn x = some k → KnOk k) (ka kb : KnE) (ha : S.kn a = some ka) (hb : S.kn b = some kb) (hab : a ≠ b) (hu : S.undo = .slice none 0 0) (hless : lessB ((S.bl a).getD 0) n = false) :
    Calls Tryz.prog 58 #[.pointer (some ⟨B + 6, 0, none⟩), .string a, .string b, .agg #[.int .u64 (limb n 0), .int .u64 (limb n 1), .int .u64 (limb n 2), .int .u64 (limb n 3)]] w fun e w' => e = .returned (.int .i64 0) ∧ StUp B w w' ∧ ∃ u, StAt B w' { S with bl := setF (setF S.bl a (subW ((S.bl a).getD 0) n)) b ((S.bl b).getD 0 + n), undo := u } := by
  have HAB := Lib.hid hab
  have HU := Lib.hid hu
  clear hab hu
  have hlt := hs.lt
  have hcap := cap_at w B a b n
  obtain ⟨w1, hw1⟩ : ∃ W, capW w B a b n = W := ⟨_, rfl⟩
  rw [hw1] at hcap
  have HC1 := Lib.hid hcap.1
  have HB1 := Lib.hid hcap.2
  have HS1 := Lib.hid (hs.after hcap.2)
  have c4 := hcap.1.s.cell (j := 0) rfl
  have c5 := hcap.1.a.cell (j := 0) rfl
  have HW1 := Lib.hid hw1
  have na : balN S a = (S.bl a).getD 0 := by unfold balN; rw [ha]
  have nb : balN S b = (S.bl b).getD 0 := by unfold balN; rw [hb]
  have fa : findN S a = 0 := by unfold findN; rw [ha]
  have fb : findN S b = 0 := by unfold findN; rw [hb]
  have HBA := Lib.hid (fun W (h : StAt B W S) => balance_any B S a W h (fun k hk => hok k a hk))
  have HBB := Lib.hid (fun W (h : StAt B W S) => balance_any B S b W h (fun k hk => hok k b hk))
  rw [na, fa] at HBA
  rw [nb, fb] at HBB
  obtain ⟨x, hx⟩ : ∃ x, (S.bl a).getD 0 = x := ⟨_, rfl⟩
  obtain ⟨y, hy⟩ : ∃ y, (S.bl b).getD 0 = y := ⟨_, rfl⟩
  rw [hx] at HBA hless
  rw [hy] at HBB
  have HX := Lib.hid hx
  have HY := Lib.hid hy
  have HLE := Lib.hid (fun W => less_any x n W)
  rw [hless] at HLE
  unfold capW at hw1
  have HW1 := Lib.hid hw1
  clear hs hcap hw1 ha hb na nb fa fb hok hless hx hy
  go_enter Tryz.func58, Tryz.ntmps58
  go_wp2_with (rw [HW1.out])
  refine (HBA.out _ HS1.out).mono ?_
  rintro e b2 ⟨rfl, hb2⟩
  obtain ⟨w2, hd2, ht2, hbd2⟩ := word1 b2 x
  have HD2 := Lib.hid hd2
  have HT2 := Lib.hid ht2
  have HN2 := Lib.hid (HasCells.new b2 [.int .u64 0, .int .u64 0, .int .u64 0, .int .u64 0] 24)
  have hbb := hb2.trans (hbd2.mono hb2.size)
  have HC2 := Lib.hid (HC1.out.after hbb)
  have HB2 := Lib.hid (HB1.out.trans (hbb.mono HB1.out.size))
  have HS2 := Lib.hid (HS1.out.after hbb)
  have HQ2 := Lib.hid (show w.heap.size + 4 ≤ b2.heap.size from Nat.le_trans HC1.out.size hb2.size)
  clear hd2 ht2 hb2 hbd2 hbb c4 c5
  have c4 := HC2.out.s.cell (j := 0) rfl
  have c6 := HC2.out.b.cell (j := 0) rfl
  go_wp2_with ((with_reducible refine store_gateK 24 ?_); refine wpList_store_mid rfl 24 _ _ rfl b2.heap.size 0 #[.int .u64 (limb x 0), .int .u64 (limb x 1), .int .u64 (limb x 2), .int .u64 (limb x 3)] rfl rfl (HN2.out.there 0 _ (Nat.le_refl _)) infoW (oneW x) ?_; rw [show ((#[.int .u64 (limb x 0), .int .u64 (limb x 1), .int .u64 (limb x 2), .int .u64 (limb x 3)] : Array Value)).toList = ([.int .u64 (limb x 0), .int .u64 (limb x 1), .int .u64 (limb x 2), .int .u64 (limb x 3)] : List Value) from rfl, HD2.out])
  refine (HBB.out _ HS2.out).mono ?_
  rintro e b3 ⟨rfl, hb3⟩
  obtain ⟨w3, hd3, ht3, hbd3⟩ := word1 b3 y
  have HD3 := Lib.hid hd3
  have HN3 := Lib.hid (HasCells.new b3 [.int .u64 0, .int .u64 0, .int .u64 0, .int .u64 0] 24)
  have hbb := hb3.trans (hbd3.mono hb3.size)
  have HT3 := Lib.hid (HT2.out.after hbb)
  have HC3 := Lib.hid (HC2.out.after hbb)
  have HB3 := Lib.hid (HB2.out.trans (hbb.mono HB2.out.size))
  have HS3 := Lib.hid (HS2.out.after hbb)
  clear hd3 ht3 hb3 hbd3 hbb c4 c6
  go_wp2_with (first | ((with_reducible refine store_gateK 24 ?_); refine wpList_store_mid rfl 24 _ _ rfl b3.heap.size 0 #[.int .u64 (limb y 0), .int .u64 (limb y 1), .int .u64 (limb y 2), .int .u64 (limb y 3)] rfl rfl (HN3.out.there 0 _ (Nat.le_refl _)) infoW (oneW y) ?_; rw [show ((#[.int .u64 (limb y 0), .int .u64 (limb y 1), .int .u64 (limb y 2), .int .u64 (limb y 3)] : Array Value)).toList = ([.int .u64 (limb y 0), .int .u64 (limb y 1), .int .u64 (limb y 2), .int .u64 (limb y 3)] : List Value) from rfl, HD3.out]) | ((with_reducible refine load_gateK 24 ?_); first | refine wpList_load_midK rfl 24 _ rfl b2.heap.size 0 rfl [.int .u64 (limb x 0), .int .u64 (limb x 1), .int .u64 (limb x 2), .int .u64 (limb x 3)] _ HT3.out.range Tryz.underlying24 rfl infoW ?_ | refine wpList_load_midK rfl 24 _ rfl (w.heap.size + 3) 0 rfl [.int .u64 (limb n 0), .int .u64 (limb n 1), .int .u64 (limb n 2), .int .u64 (limb n 3)] _ HC3.out.n.range Tryz.underlying24 rfl infoW ?_))
  refine (show Calls _ _ _ _ _ from HLE.out _).mono ?_
  rintro e w4 ⟨rfl, hb4⟩
  have HC4 := Lib.hid (HC3.out.after hb4)
  have HB4 := Lib.hid (HB3.out.trans (hb4.mono HB3.out.size))
  have HS4 := Lib.hid (HS3.out.after hb4)
  clear hb4
  obtain ⟨F1, hF1⟩ : ∃ F, setF S.bl a (subW x n) = F := ⟨_, rfl⟩
  have HF1 := Lib.hid hF1
  have hy2 : (F1 b).getD 0 = y := by rw [← hF1, setF_other _ _ (fun e => HAB.out e.symm)]; exact HY.out
  have HSB := Lib.hid (show ∀ W, Calls Tryz.prog 20 #[.agg #[.int .u64 (limb ((S.bl a).getD 0) 0), .int .u64 (limb ((S.bl a).getD 0) 1), .int .u64 (limb ((S.bl a).getD 0) 2), .int .u64 (limb ((S.bl a).getD 0) 3)], .agg #[.int .u64 (limb n 0), .int .u64 (limb n 1), .int .u64 (limb n 2), .int .u64 (limb n 3)]] W fun e w' => e = .returned (.agg #[.int .u64 (limb (subW x n) 0), .int .u64 (limb (subW x n) 1), .int .u64 (limb (subW x n) 2), .int .u64 (limb (subW x n) 3)]) ∧ Below W.heap.size W w' from fun W => by rw [HX.out]; exact sub_any x n W)
  have HAD := Lib.hid (show ∀ W, Calls Tryz.prog 18 #[.agg #[.int .u64 (limb ((F1 b).getD 0) 0), .int .u64 (limb ((F1 b).getD 0) 1), .int .u64 (limb ((F1 b).getD 0) 2), .int .u64 (limb ((F1 b).getD 0) 3)], .agg #[.int .u64 (limb n 0), .int .u64 (limb n 1), .int .u64 (limb n 2), .int .u64 (limb n 3)]] W fun e w' => e = .returned (.agg #[.int .u64 (limb (y + n) 0), .int .u64 (limb (y + n) 1), .int .u64 (limb (y + n) 2), .int .u64 (limb (y + n) 3)]) ∧ Below W.heap.size W w' from fun W => by rw [hy2]; exact add_any y n W)
  clear hF1 hy2
  have HU4 := Lib.hid (StUp.of HB4.out (show B ≤ w.heap.size by omega))
  go_wp2_with fail
  refine wp_region_L (fun Ls w' => Ls.getD 13 true = false → w'.cell? ⟨w.heap.size, 0, none⟩ = some (.pointer (some ⟨B + 6, 0, none⟩)) ∧ w'.cell? ⟨B + 6, 1, none⟩ = some (.map (some (B + 1))) ∧ w'.cell? ⟨w.heap.size + 1, 0, none⟩ = some (.string a) ∧ W4 w' (w.heap.size + 3) 0 n ∧ MapV IsStr w' (B + 1) (strF (wdV S.bl))) (by kernel_rfl) ?_
  refine lD 0 13 ⟨HC4.out.s.cell (j := 0) rfl, HS4.out.cells.cell (j := 1) rfl, HC4.out.a.cell (j := 0) rfl, HC4.out.n.range, HS4.out.bl⟩ ?_
  refine lT 1 12 ⟨HC4.out.s.cell (j := 0) rfl, HS4.out.cells.cell (j := 1) rfl, HC4.out.a.cell (j := 0) rfl, HC4.out.n.range, HS4.out.bl⟩ ?_
  refine lT 2 11 ⟨HC4.out.s.cell (j := 0) rfl, HS4.out.cells.cell (j := 1) rfl, HC4.out.a.cell (j := 0) rfl, HC4.out.n.range, HS4.out.bl⟩ ?_
  refine lD 3 10 ⟨HC4.out.s.cell (j := 0) rfl, HS4.out.cells.cell (j := 1) rfl, HC4.out.a.cell (j := 0) rfl, HC4.out.n.range, HS4.out.bl⟩ ?_
  refine lD 4 9 ⟨HC4.out.s.cell (j := 0) rfl, HS4.out.cells.cell (j := 1) rfl, HC4.out.a.cell (j := 0) rfl, HC4.out.n.range, HS4.out.bl⟩ ?_
  refine lD 5 8 ⟨HC4.out.s.cell (j := 0) rfl, HS4.out.cells.cell (j := 1) rfl, HC4.out.a.cell (j := 0) rfl, HC4.out.n.range, HS4.out.bl⟩ ?_
  refine lT 6 7 ⟨HC4.out.s.cell (j := 0) rfl, HS4.out.cells.cell (j := 1) rfl, HC4.out.a.cell (j := 0) rfl, HC4.out.n.range, HS4.out.bl⟩ ?_
  refine lT 7 6 ⟨HC4.out.s.cell (j := 0) rfl, HS4.out.cells.cell (j := 1) rfl, HC4.out.a.cell (j := 0) rfl, HC4.out.n.range, HS4.out.bl⟩ ?_
  refine lD 8 5 ⟨HC4.out.s.cell (j := 0) rfl, HS4.out.cells.cell (j := 1) rfl, HC4.out.a.cell (j := 0) rfl, HC4.out.n.range, HS4.out.bl⟩ ?_
  refine lD 9 4 ⟨HC4.out.s.cell (j := 0) rfl, HS4.out.cells.cell (j := 1) rfl, HC4.out.a.cell (j := 0) rfl, HC4.out.n.range, HS4.out.bl⟩ ?_
  refine lU 10 3 ⟨HC4.out.s.cell (j := 0) rfl, HS4.out.cells.cell (j := 1) rfl, HC4.out.a.cell (j := 0) rfl, HC4.out.n.range, HS4.out.bl⟩ ?_ (hy := fun w0 hSw => run_lookB rfl rfl rfl hSw.2.2.2.2)
  refine lU 11 2 ⟨HC4.out.s.cell (j := 0) rfl, HS4.out.cells.cell (j := 1) rfl, HC4.out.a.cell (j := 0) rfl, HC4.out.n.range, HS4.out.bl⟩ ?_ (hy := fun w0 hSw => run_loadW rfl rfl hSw.2.2.2.1)
  refine wpAnyL_one (i := 12) (fuel := 1) (by kernel_rfl) rfl (fun K hK => ?_)
  go_simp
  go_at_call 20
  refine (show Calls _ _ _ _ _ from HSB.out _).mono ?_
  rintro e w5 ⟨rfl, hb5⟩
  have hb5 := (Below.refl _ w4).drew.trans hb5
  have HC5 := Lib.hid (HC4.out.after hb5)
  have HU5 := Lib.hid (HU4.out.next (by omega) hb5)
  have HS5 := Lib.hid (HS4.out.after hb5)
  clear hb5
  refine hK.out _ _ (fun h => ⟨HC5.out.s.cell (j := 0) rfl, HS5.out.cells.cell (j := 1) rfl, HC5.out.a.cell (j := 0) rfl, HC5.out.n.range, HS5.out.bl⟩) (fun _ => ?_)
  clear hK K
  try simp only [Act.put, zq]
  obtain ⟨oo, hu, hm⟩ := HS5.out.bl.update (P := Tryz.prog) (mty := 99) Tryz.underlying99 (keyFit_string Tryz.underlying9) (.string a) (.agg #[.int .u64 (limb (subW x n) 0), .int .u64 (limb (subW x n) 1), .int .u64 (limb (subW x n) 2), .int .u64 (limb (subW x n) 3)]) ⟨_, rfl⟩
  refine wpAnyL_one (i := 13) (fuel := 0) (by kernel_rfl) rfl (fun K hK => ?_)
  go_simp
  obtain ⟨w6, hw6⟩ : ∃ W, w5.putObj (B + 1) oo = W := ⟨_, rfl⟩
  rw [hw6]
  rw [hw6] at hm
  refine hK.out _ _ (fun h => (by cases h)) (fun _ => ?_)
  clear hK K
  try simp only [Act.put, zq]
  have hot : ∀ q, q ≠ B + 1 → w6.heap[q]? = w5.heap[q]? := fun q hq => by rw [← hw6]; exact World.putObj_heap_other hq
  have hsz : w6.heap.size = w5.heap.size := by rw [← hw6]; exact World.putObj_size
  have HC6 := Lib.hid (HC5.out.kept (fun q h1 h2 => hot q (by omega)) hsz)
  have HS6 := Lib.hid (show StAt B w6 { S with bl := F1 } from ⟨HS5.out.cells.kept (hot _ (by omega)), HS5.out.kn.kept (hot _ (by omega)), by rw [updV_str, wdV_set] at hm; rw [← HF1.out]; exact hm, HS5.out.sv.kept (hot _ (by omega)), HS5.out.br.kept (hot _ (by omega)), HS5.out.wm.kept (hot _ (by omega)), HS5.out.cl.kept (hot _ (by omega))⟩)
  have HU6 := Lib.hid (show StUp B w w6 from by rw [← hw6]; exact HU5.out.put (by omega) (by omega) _)
  clear hw6 hu hm hot hsz
  refine wpAnyL_done (by kernel_rfl) ?_ 0
  go_wp2_with fail
  refine wp_region_L (fun Ls w' => Ls.getD 13 true = false → w'.cell? ⟨w.heap.size, 0, none⟩ = some (.pointer (some ⟨B + 6, 0, none⟩)) ∧ w'.cell? ⟨B + 6, 1, none⟩ = some (.map (some (B + 1))) ∧ w'.cell? ⟨w.heap.size + 2, 0, none⟩ = some (.string b) ∧ W4 w' (w.heap.size + 3) 0 n ∧ MapV IsStr w' (B + 1) (strF (wdV F1))) (by kernel_rfl) ?_
  refine lD 0 13 ⟨HC6.out.s.cell (j := 0) rfl, HS6.out.cells.cell (j := 1) rfl, HC6.out.b.cell (j := 0) rfl, HC6.out.n.range, HS6.out.bl⟩ ?_
  refine lT 1 12 ⟨HC6.out.s.cell (j := 0) rfl, HS6.out.cells.cell (j := 1) rfl, HC6.out.b.cell (j := 0) rfl, HC6.out.n.range, HS6.out.bl⟩ ?_
  refine lT 2 11 ⟨HC6.out.s.cell (j := 0) rfl, HS6.out.cells.cell (j := 1) rfl, HC6.out.b.cell (j := 0) rfl, HC6.out.n.range, HS6.out.bl⟩ ?_
  refine lD 3 10 ⟨HC6.out.s.cell (j := 0) rfl, HS6.out.cells.cell (j := 1) rfl, HC6.out.b.cell (j := 0) rfl, HC6.out.n.range, HS6.out.bl⟩ ?_
  refine lD 4 9 ⟨HC6.out.s.cell (j := 0) rfl, HS6.out.cells.cell (j := 1) rfl, HC6.out.b.cell (j := 0) rfl, HC6.out.n.range, HS6.out.bl⟩ ?_
  refine lD 5 8 ⟨HC6.out.s.cell (j := 0) rfl, HS6.out.cells.cell (j := 1) rfl, HC6.out.b.cell (j := 0) rfl, HC6.out.n.range, HS6.out.bl⟩ ?_
  refine lT 6 7 ⟨HC6.out.s.cell (j := 0) rfl, HS6.out.cells.cell (j := 1) rfl, HC6.out.b.cell (j := 0) rfl, HC6.out.n.range, HS6.out.bl⟩ ?_
  refine lT 7 6 ⟨HC6.out.s.cell (j := 0) rfl, HS6.out.cells.cell (j := 1) rfl, HC6.out.b.cell (j := 0) rfl, HC6.out.n.range, HS6.out.bl⟩ ?_
  refine lD 8 5 ⟨HC6.out.s.cell (j := 0) rfl, HS6.out.cells.cell (j := 1) rfl, HC6.out.b.cell (j := 0) rfl, HC6.out.n.range, HS6.out.bl⟩ ?_
  refine lD 9 4 ⟨HC6.out.s.cell (j := 0) rfl, HS6.out.cells.cell (j := 1) rfl, HC6.out.b.cell (j := 0) rfl, HC6.out.n.range, HS6.out.bl⟩ ?_
  refine lU 10 3 ⟨HC6.out.s.cell (j := 0) rfl, HS6.out.cells.cell (j := 1) rfl, HC6.out.b.cell (j := 0) rfl, HC6.out.n.range, HS6.out.bl⟩ ?_ (hy := fun w0 hSw => run_lookB rfl rfl rfl hSw.2.2.2.2)
  refine lU 11 2 ⟨HC6.out.s.cell (j := 0) rfl, HS6.out.cells.cell (j := 1) rfl, HC6.out.b.cell (j := 0) rfl, HC6.out.n.range, HS6.out.bl⟩ ?_ (hy := fun w0 hSw => run_loadW rfl rfl hSw.2.2.2.1)
  refine wpAnyL_one (i := 12) (fuel := 1) (by kernel_rfl) rfl (fun K hK => ?_)
  go_simp
  go_at_call 18
  refine (show Calls _ _ _ _ _ from HAD.out _).mono ?_
  rintro e w7 ⟨rfl, hb7⟩
  have hb7 := (Below.refl _ w6).drew.trans hb7
  have HC7 := Lib.hid (HC6.out.after hb7)
  have HU7 := Lib.hid (HU6.out.next (by omega) hb7)
  have HS7 := Lib.hid (HS6.out.after hb7)
  clear hb7
  refine hK.out _ _ (fun h => ⟨HC7.out.s.cell (j := 0) rfl, HS7.out.cells.cell (j := 1) rfl, HC7.out.b.cell (j := 0) rfl, HC7.out.n.range, HS7.out.bl⟩) (fun _ => ?_)
  clear hK K
  try simp only [Act.put, zq]
  obtain ⟨oo, hu, hm⟩ := HS7.out.bl.update (P := Tryz.prog) (mty := 99) Tryz.underlying99 (keyFit_string Tryz.underlying9) (.string b) (.agg #[.int .u64 (limb (y + n) 0), .int .u64 (limb (y + n) 1), .int .u64 (limb (y + n) 2), .int .u64 (limb (y + n) 3)]) ⟨_, rfl⟩
  refine wpAnyL_one (i := 13) (fuel := 0) (by kernel_rfl) rfl (fun K hK => ?_)
  go_simp
  obtain ⟨w8, hw8⟩ : ∃ W, w7.putObj (B + 1) oo = W := ⟨_, rfl⟩
  rw [hw8]
  rw [hw8] at hm
  refine hK.out _ _ (fun h => (by cases h)) (fun _ => ?_)
  clear hK K
  try simp only [Act.put, zq]
  have hot : ∀ q, q ≠ B + 1 → w8.heap[q]? = w7.heap[q]? := fun q hq => by rw [← hw8]; exact World.putObj_heap_other hq
  have hsz : w8.heap.size = w7.heap.size := by rw [← hw8]; exact World.putObj_size
  have HC8 := Lib.hid (HC7.out.kept (fun q h1 h2 => hot q (by omega)) hsz)
  have HS8 := Lib.hid (show StAt B w8 { S with bl := setF F1 b (y + n) } from ⟨HS7.out.cells.kept (hot _ (by omega)), HS7.out.kn.kept (hot _ (by omega)), by rw [updV_str, wdV_set] at hm; exact hm, HS7.out.sv.kept (hot _ (by omega)), HS7.out.br.kept (hot _ (by omega)), HS7.out.wm.kept (hot _ (by omega)), HS7.out.cl.kept (hot _ (by omega))⟩)
  have HU8 := Lib.hid (show StUp B w w8 from by rw [← hw8]; exact HU7.out.put (by omega) (by omega) _)
  clear hw8 hu hm hot hsz
  refine wpAnyL_done (by kernel_rfl) ?_ 0
  go_wp2_with fail
  refine wp_region_L (fun Ls w' => Ls.getD 10 true = false → w'.cell? ⟨w.heap.size, 0, none⟩ = some (.pointer (some ⟨B + 6, 0, none⟩)) ∧ w'.cell? ⟨B + 6, 7, none⟩ = some (.slice none 0 0)) (by kernel_rfl) ?_
  refine lD 0 10 ⟨HC8.out.s.cell (j := 0) rfl, (HS8.out.cells.cell (j := 7) rfl).trans (by show some S.undo = _; rw [HU.out])⟩ ?_
  refine lD 1 9 ⟨HC8.out.s.cell (j := 0) rfl, (HS8.out.cells.cell (j := 7) rfl).trans (by show some S.undo = _; rw [HU.out])⟩ ?_
  refine lT 2 8 ⟨HC8.out.s.cell (j := 0) rfl, (HS8.out.cells.cell (j := 7) rfl).trans (by show some S.undo = _; rw [HU.out])⟩ ?_
  refine lT 3 7 ⟨HC8.out.s.cell (j := 0) rfl, (HS8.out.cells.cell (j := 7) rfl).trans (by show some S.undo = _; rw [HU.out])⟩ ?_
  refine lD 4 6 ⟨HC8.out.s.cell (j := 0) rfl, (HS8.out.cells.cell (j := 7) rfl).trans (by show some S.undo = _; rw [HU.out])⟩ ?_
  refine lT 5 5 ⟨HC8.out.s.cell (j := 0) rfl, (HS8.out.cells.cell (j := 7) rfl).trans (by show some S.undo = _; rw [HU.out])⟩ ?_
  refine wpAnyL_one (i := 6) (fuel := 4) (by kernel_rfl) rfl (fun K hK => ?_)
  go_simp
  obtain ⟨w9, hw9⟩ : ∃ W, (w8.alloc (.cells #[.func (.func 76) #[] #[.pointer (some ⟨w.heap.size, 0, none⟩), .pointer (some ⟨w.heap.size + 1 + 1, 0, none⟩), .pointer (some ⟨w.heap.size + 1 + 1 + 1, 0, none⟩), .pointer (some ⟨w.heap.size + 1, 0, none⟩)]] 1)).drew = W := ⟨_, rfl⟩
  rw [hw9]
  have hz9 : HasCells w9 w8.heap.size [.func (.func 76) #[] #[.pointer (some ⟨w.heap.size, 0, none⟩), .pointer (some ⟨w.heap.size + 1 + 1, 0, none⟩), .pointer (some ⟨w.heap.size + 1 + 1 + 1, 0, none⟩), .pointer (some ⟨w.heap.size + 1, 0, none⟩)]] 1 := by rw [← hw9]; exact HasCells.new w8 _ _
  have hb9 : Below w8.heap.size w8 w9 := by rw [← hw9]; exact ((Below.refl _ _).alloc (Nat.le_refl _) _).drew
  have HZ9 := Lib.hid hz9
  have HC9 := Lib.hid (HC8.out.after hb9)
  have HS9 := Lib.hid (HS8.out.after hb9)
  have HU9 := Lib.hid (HU8.out.next (by omega) hb9)
  clear hw9 hz9 hb9
  refine hK.out _ _ (fun h => ⟨HC9.out.s.cell (j := 0) rfl, (HS9.out.cells.cell (j := 7) rfl).trans (by show some S.undo = _; rw [HU.out])⟩) (fun _ => ?_)
  clear hK K
  try simp only [Act.put, zq]
  refine wpAnyL_one (i := 7) (fuel := 3) (by kernel_rfl) rfl (fun K hK => ?_)
  refine step_appendU (by rfl) _ _ rfl rfl ⟨w8.heap.size, 0, none⟩ 1 _ rfl (HZ9.out.cell (j := 0) rfl) rfl (fun pp nn cc w10 hb10 => ?_)
  have HC10 := Lib.hid (HC9.out.after hb10)
  have HS10 := Lib.hid (HS9.out.after hb10)
  have HU10 := Lib.hid (HU9.out.next (by omega) hb10)
  clear hb10
  refine hK.out _ _ (fun h => ⟨HC10.out.s.cell (j := 0) rfl, (HS10.out.cells.cell (j := 7) rfl).trans (by show some S.undo = _; rw [HU.out])⟩) (fun _ => ?_)
  clear hK K
  try simp only [Act.put, zq]
  refine lT 8 2 ⟨HC10.out.s.cell (j := 0) rfl, (HS10.out.cells.cell (j := 7) rfl).trans (by show some S.undo = _; rw [HU.out])⟩ ?_
  refine lT 9 1 ⟨HC10.out.s.cell (j := 0) rfl, (HS10.out.cells.cell (j := 7) rfl).trans (by show some S.undo = _; rw [HU.out])⟩ ?_
  have y1 := HS10.out.cells.cell (j := 7) rfl
  have y2 := HS10.out.cells.frozen 7
  refine wpAnyL_one (i := 10) (fuel := 0) (by kernel_rfl) rfl (fun K hK => ?_)
  go_simp
  obtain ⟨w11, hw11⟩ : ∃ W, w10.setCell ⟨B + 6, 7, none⟩ (.slice pp nn cc) = W := ⟨_, rfl⟩
  rw [hw11]
  have hot : ∀ q, q ≠ B + 6 → w11.heap[q]? = w10.heap[q]? := fun q hq => by rw [← hw11]; exact Below.heap_setCell w10 ⟨B + 6, 7, none⟩ _ q hq
  have HU11 := Lib.hid (show StUp B w w11 from by rw [← hw11]; exact HU10.out.set 7 _)
  have HS11 := Lib.hid (show StAt B w11 { S with bl := setF F1 b (y + n), undo := .slice pp nn cc } from ⟨by rw [← hw11]; exact HS10.out.cells.set 7 _, HS10.out.kn.kept (hot _ (by omega)), HS10.out.bl.kept (hot _ (by omega)), HS10.out.sv.kept (hot _ (by omega)), HS10.out.br.kept (hot _ (by omega)), HS10.out.wm.kept (hot _ (by omega)), HS10.out.cl.kept (hot _ (by omega))⟩)
  clear hw11 hot y1 y2
  refine hK.out _ _ (fun h => (by cases h)) (fun _ => ?_)
  clear hK K
  try simp only [Act.put, zq]
  refine wpAnyL_done (by kernel_rfl) ?_ 0
  go_wp2
  go_ret
  exact ⟨rfl, HU11.out, _, by rw [HX.out, HF1.out, HY.out]; exact HS11.out⟩
end Go.Proofs.YtlelgbmbmajfmaaGreatDoor
