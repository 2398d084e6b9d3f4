/- What the walks take: Ew15. -/
import Derived.Test.YtlelgbmbmajfmaaGreatDoorS3
import Derived.Test.YtlelgbmbmajfmaaGreatDoorS10
import Derived.Test.YtlelgbmbmajfmaaGreatDoorS20
import Derived.Deep.RegionHeld3
import Derived.Deep.MidRow
import Derived.Lib.Hide
import Derived.RangeFuncNested
import Derived.Shelf.Abstract
namespace Go.Proofs.YtlelgbmbmajfmaaGreatDoor
open Go.RowKit Go.Shelf Go.Lib
theorem lv_notI (x : UInt64) : bits .xor .u64 (if IntKind.u64.signed = true then -1 else IntKind.u64.max) (lv x) = lv (~~~x) := lv_not x
attribute [local go_sem] Oper.semAt_some lv_and lv_or lv_xor lv_not lv_notM lv_notI
theorem rotl_one (x : UInt64) (w : World) : Calls Tryz.prog 71 #[.int .u64 (lv x), .int .i64 1] w fun e w' => e = .returned (.int .u64 (lv (rotl x 1))) ∧ w' = w := rotl_any x 1 (by decide) (by decide) w
theorem load_gate64 {P : Program} {ops : Array Oper} {Q : Exit → Act → World → Prop} {rest : List Oper} {a : Act} {w : World} {d : Option Tmp} {x : Operand} {ty : TypeId} {pos : String} {af : Array Edge} {g : Option (Nat × Bool)} (T : TypeId)
    (h : wpList P ops Q (Oper.mk d (Op.load T x) ty pos af g :: rest) a w) : wpList P ops Q (Oper.mk d (Op.load T x) ty pos af g :: rest) a w := h
def placesV : List Value := placesL.map fun n : Nat => Value.int .i64 (n : Int)
theorem infoPlaces : (Tryz.prog.info? 136).map (·.size) = some placesV.length := by kernel_rfl
theorem run_index_places (n : Nat) (hn : n < 24) (w : World) : Sem.run Tryz.prog (Instr.index 136 (.agg placesV.toArray) (.int .i64 (n : Int))) w = .ok (.int .i64 ((placesL.getD n 0 : Nat) : Int)) w := by
  have h0 : (0 : Int) ≤ n := by omega
  have hc : placesV[n]? = some (.int .i64 ((placesL.getD n 0 : Nat) : Int)) := by
    unfold placesV
    rw [List.getElem?_map, List.getD_eq_getElem?_getD, List.getElem?_eq_getElem (by exact hn)]
    rfl
  have e : (placesL.getD n 0) = placesL[n]?.getD 0 := List.getD_eq_getElem?_getD
  rw [e] at hc ⊢
  simp [Instr.index, go_sem, h0, hn, hc]
theorem run_slice25 (ab y : Nat) (hy : y + 5 ≤ 25) (w : World) : Sem.run Tryz.prog (Instr.sliceAt 74 (.pointer (some ⟨ab, 0, none⟩)) (some (.int .i64 (y : Int))) (some (.int .i64 ((y : Int) + 5))) none) w = .ok (.slice (some ⟨ab, y, none⟩) 5 (25 - y)) w := by
  have h0 : (0 : Int) ≤ y := by omega
  have h1 : (0 : Int) ≤ (y : Int) + 5 := by omega
  have h2 : (y : Int) + 5 ≤ 25 := by omega
  have h3 : ((y : Int) + 5).toNat = y + 5 := by omega
  have h4 : ¬ 25 = y := by omega
  simp [Instr.sliceAt, go_sem, Instr.sliceBounds, h0, h1, h2, h3, h4]
theorem run_arr5 (ab y c : Nat) (w : World) : Sem.run Tryz.prog (Instr.arrayAt 134 (.slice (some ⟨ab, y, none⟩) 5 c)) w = .ok (.pointer (some ⟨ab, y, none⟩)) w := by
  simp [Instr.arrayAt, go_sem]
def rowV (B : Nat → UInt64) (y : Nat) : List Value := [.int .u64 (lv (B y)), .int .u64 (lv (B (y + 1))), .int .u64 (lv (B (y + 2))), .int .u64 (lv (B (y + 3))), .int .u64 (lv (B (y + 4)))]
theorem infoRow5 : (Tryz.prog.info? 134).map (·.size) = some 5 := by kernel_rfl
theorem Lanes.row {W : World} {b : Nat} {f : Nat → UInt64} (h : Lanes 25 W b f) (y : Nat) (hy : y + 5 ≤ 25) : W.rangeAt b y (rowV f y) := fun j v hj => by
  have hl : j < 5 := (List.getElem?_eq_some_iff.1 hj).1
  have e : v = .int .u64 (lv (f (y + j))) := by
    match j, hl, hj with
    | 0, _, hj => cases hj; rfl
    | 1, _, hj => cases hj; rfl
    | 2, _, hj => cases hj; rfl
    | 3, _, hj => cases hj; rfl
    | 4, _, hj => cases hj; rfl
  rw [e]
  exact h.cell (by omega)
theorem lanes_row (W : World) (B : Nat → UInt64) (y : Nat) (t : TypeId) : Lanes 5 (W.alloc (.cells (rowV B y).toArray t)) W.heap.size (fun x => B (y + x)) :=
  Lanes.new 5 W _ _ t rfl (fun j hj => by
    match j, hj with
    | 0, _ => rfl
    | 1, _ => rfl
    | 2, _ => rfl
    | 3, _ => rfl
    | 4, _ => rfl)
theorem places_lt : ∀ n, n < 24 → placesL.getD n 0 < 25 := by decide
theorem turns_lt : ∀ n, n < 24 → 0 < turnsL.getD n 0 ∧ turnsL.getD n 0 < 64 := by decide
structure KecT (W : World) : Prop where
  places : ∀ t, t < 24 → W.cell? ⟨0, t, none⟩ = some (.int .i64 ((placesL.getD t 0 : Nat) : Int))
  turns : ∀ t, t < 24 → W.cell? ⟨1, t, none⟩ = some (.int .i64 ((turnsL.getD t 0 : Nat) : Int))
  consts : ∀ t, t < 24 → W.cell? ⟨2, t, none⟩ = some (.int .u64 (lv (constsL.getD t 0)))
def NotTab (b : Nat) : Prop := b ≠ 0 ∧ b ≠ 1 ∧ b ≠ 2
theorem KecT.but {w W : World} {b : Nat} (h : KecT w) (hb : But64 b w W) (hn : NotTab b) : KecT W := by
  have key : ∀ g i v, b ≠ g → w.cell? ⟨g, i, none⟩ = some v → W.cell? ⟨g, i, none⟩ = some v := fun g i v hg hc =>
    (World.cell?_of_block (hb.block g (World.block_lt_of_cell? w _ hc) (Ne.symm hg))).trans hc
  exact ⟨fun t ht => key _ _ _ hn.1 (h.places t ht), fun t ht => key _ _ _ hn.2.1 (h.turns t ht), fun t ht => key _ _ _ hn.2.2 (h.consts t ht)⟩
theorem KecT.range {w W : World} {b : Nat} (h : KecT w) (hb : But64 b w W) (hn : NotTab b) : W.rangeAt 0 0 placesV := fun j v hj => by
  have hl : j < 24 := (List.getElem?_eq_some_iff.1 hj).1
  rw [Nat.zero_add, (h.but hb hn).places j hl, ← hj]
  unfold placesV
  rw [List.getElem?_map, List.getD_eq_getElem?_getD, List.getElem?_eq_getElem (by exact hl)]
  rfl
theorem tmod5 (n : Nat) : (n : Int).tmod 5 = ((n % 5 : Nat) : Int) := by rw [Int.tmod_eq_emod_of_nonneg (by omega)]; omega
set_option maxRecDepth 100000 in
set_option maxHeartbeats 6400000 in
theorem permute_any (ab : Nat) (A : Nat → UInt64) (w : World) (hA : Lanes 25 w ab A) (hK : KecT w) (hN : NotTab ab) : Calls Tryz.prog 47 #[.pointer (some ⟨ab, 0, none⟩)] w fun e w' => (∃ v, e = .returned v) ∧ Lanes 25 w' ab (permP A 24) ∧ But64 ab w w' := by
  have hlt := hA.lt
  have HA0 := Lib.hid hA
  have HK := Lib.hid hK
  have HN := Lib.hid hN
  clear hA hK hN
  go_enter Tryz.func47, Tryz.ntmps47
  go_wp2
  go_loopw [13] (fun i wr => ∃ k : Nat, k ≤ 24 ∧ i = .int .i64 k ∧ Hid (Lanes 25 wr ab (permP A k)) ∧ Hid (But64 ab w wr)) (fun i _ => 24 - (intOf i).toNat)
  case atStart => exact ⟨0, by omega, rfl, HA0, Lib.hid (But64.refl _ _)⟩
  case round =>
    obtain ⟨k, hk, rfl, HL, HB⟩ := hrel
    have g1 : (0 : Int) ≤ k := by omega
    by_cases hk2 : k < 24
    · obtain ⟨A1, hA1⟩ : ∃ A1, permP A k = A1 := ⟨_, rfl⟩
      rw [hA1] at HL
      have HAE := Lib.hid hA1
      clear hA1
      have g2 : (k : Int) < 24 := by omega
      have hsz0 : w.heap.size ≤ wr.heap.size := HB.out.size
      have hltr : ab < wr.heap.size := by omega
      obtain ⟨cb, hcb⟩ : ∃ cb, wr.heap.size = cb := ⟨_, rfl⟩
      obtain ⟨w1, hw1⟩ : ∃ W, wr.alloc (.cells (List.replicate 5 (Value.int .u64 0)).toArray 134) = W := ⟨_, rfl⟩
      have lc := lanes_zero 5 wr 134
      rw [hw1, hcb] at lc
      have la := HL.out.alloc (.cells (List.replicate 5 (Value.int .u64 0)).toArray 134)
      rw [hw1] at la
      have bb := HB.out.alloc (.cells (List.replicate 5 (Value.int .u64 0)).toArray 134)
      rw [hw1] at bb
      have HW1 := Lib.hid hw1
      have HLC := Lib.hid lc
      have HLA := Lib.hid la
      have HBB := Lib.hid bb
      have HCB := Lib.hid hcb
      clear HL HB hw1 lc la bb
      go_wp2_with fail
      rw [show wr.alloc (.cells #[.int .u64 0, .int .u64 0, .int .u64 0, .int .u64 0, .int .u64 0] 134) = w1 from HW1.out]
      have hcw : w.heap.size ≤ cb := by omega
      have hne : ab ≠ cb := by omega
      clear hcb hsz0 hltr HW1 HCB
      go_loopw [17] (fun i wr => ∃ n : Nat, n ≤ 25 ∧ i = .int .i64 n ∧ Hid (Lanes 25 wr ab A1) ∧ Hid (Lanes 5 wr cb (colP A1 n)) ∧ Hid (But64 ab w wr)) (fun i _ => 25 - (intOf i).toNat)
      case atStart => exact ⟨0, by omega, rfl, HLA, HLC, HBB⟩
      case round =>
        obtain ⟨n, hn, rfl, HA, HC, HB⟩ := hrel
        have g3 : (0 : Int) ≤ n := by omega
        by_cases hn2 : n < 25
        · have g4 : (n : Int) < 25 := by omega
          go_wp2_with fail
          have hHL : ab < wr.heap.size := HA.out.lt
          refine wp_region_held_drew (S := (fun W => Lanes 25 W ab A1)) (by kernel_rfl) (HA.out.kept rfl) (fun hHeld => ?_)
          refine wpAnyH_take (i := 0) (v := ?_) rfl (by kernel_rfl) (by kernel_rfl) (by kernel_rfl) (fun _ _ _ h => h) (.inl ⟨by rfl, ?_⟩) (by assumption) ?_
          rotate_left 1
          · intro w0 hSw
            go_simp <;> with_reducible rfl
          try simp only [Act.put, zq1, zq2, zq4, zq5, zq6]
          refine wpAnyH_take (i := 1) (v := ?_) rfl (by kernel_rfl) (by kernel_rfl) (by kernel_rfl) (fun _ _ _ h => h) (.inl ⟨by rfl, ?_⟩) (by assumption) ?_
          rotate_left 1
          · intro w0 hSw
            go_simp <;> with_reducible rfl
          try simp only [Act.put, zq1, zq2, zq3, zq4, zq5, zq6]
          refine wpAnyH_take (i := 2) (v := ?_) rfl (by kernel_rfl) (by kernel_rfl) (by kernel_rfl) (fun _ _ _ h => h) (.inl ⟨by rfl, ?_⟩) (by assumption) ?_
          rotate_left 1
          · intro w0 hSw
            go_simp <;> with_reducible rfl
          try simp only [Act.put, zq1, zq2, zq3, zq4, zq5, zq6]
          refine wpAnyH_take (i := 3) (v := ?_) rfl (by kernel_rfl) (by kernel_rfl) (by kernel_rfl) (fun _ _ _ h => h) (.inl ⟨by rfl, ?_⟩) (by assumption) ?_
          rotate_left 1
          · intro w0 hSw
            have z := Lanes.cell hSw hn2
            go_simp <;> with_reducible rfl
          try simp only [Act.put, zq1, zq2, zq3, zq4, zq5, zq6]
          refine wpAnyH_take (i := 4) (v := ?_) rfl (by kernel_rfl) (by kernel_rfl) (by kernel_rfl) (fun _ _ _ h => h) (.inl ⟨by rfl, ?_⟩) (by assumption) ?_
          rotate_left 1
          · intro w0 hSw
            go_simp <;> with_reducible rfl
          try simp only [Act.put, zq1, zq2, zq3, zq4, zq5, zq6]
          refine wpAnyH_take (i := 5) (v := ?_) rfl (by kernel_rfl) (by kernel_rfl) (by kernel_rfl) (fun _ _ _ h => h) (.inl ⟨by rfl, ?_⟩) (by assumption) ?_
          rotate_left 1
          · intro w0 hSw
            go_simp <;> with_reducible rfl
          try simp only [Act.put, zq1, zq2, zq3, zq4, zq5, zq6]
          refine wpAnyH_done (by kernel_rfl) ?_ 0
          have HA' := Lib.hid (show Lanes 25 wr.drew ab A1 from HA.out.kept rfl)
          have HB' := Lib.hid (show But64 ab w wr.drew from HB.out.drew)
          have hC' : Lanes 5 wr.drew cb (colP A1 n) := HC.out.kept rfl
          have hm : n % 5 < 5 := Nat.mod_lt _ (by decide)
          have z1 := hC'.cell hm
          have z2 := hC'.frozen (n % 5)
          have z3 := hC'.lt
          have e1 := tmod5 n
          have e2 : ((n % 5 : Nat) : Int) < 5 := by omega
          have e3 : (0 : Int) ≤ ((n % 5 : Nat) : Int) := by omega
          have HC' := Lib.hid hC'
          have HM := Lib.hid hm
          clear hHeld HA HB HC hC' hm
          go_wp2
          go_roundw
          case rel => exact ⟨n + 1, by omega, by rw [Int.natCast_add]; rfl, Lib.hid (HA'.out.setOther hne _), Lib.hid (HC'.out.set HM.out _), Lib.hid (HB'.out.set (.inr hcw) _)⟩
          case measure => simp [intOf]; omega
        · have hn5 : n = 25 := by omega
          have g4 : ¬ ((n : Int) < 25) := by omega
          rw [hn5] at HC
          clear hn5
          go_wp2_with fail
          obtain ⟨C, hC⟩ : ∃ C, colP A1 25 = C := ⟨_, rfl⟩
          rw [hC] at HC
          have HCE := Lib.hid hC
          clear hC hn hn2 g3 g4
          go_loopw [31] (fun i wr => ∃ n : Nat, n ≤ 25 ∧ i = .int .i64 n ∧ Hid (Lanes 25 wr ab (thetaP C A1 n)) ∧ Hid (Lanes 5 wr cb C) ∧ Hid (But64 ab w wr)) (fun i _ => 25 - (intOf i).toNat)
          case atStart => exact ⟨0, by omega, rfl, HA, HC, HB⟩
          case round =>
            obtain ⟨n, hn, rfl, HA, HC, HB⟩ := hrel
            have g3 : (0 : Int) ≤ n := by omega
            by_cases hn2 : n < 25
            · have g4 : (n : Int) < 25 := by omega
              obtain ⟨T, hT⟩ : ∃ T, thetaP C A1 n = T := ⟨_, rfl⟩
              rw [hT] at HA
              have HTE := Lib.hid hT
              clear hT
              have hw4 : IntKind.i64.wrap ((n : Int) + 4) = (n : Int) + 4 := by rw [IntKind.wrap_i64]; omega
              have hw1 : IntKind.i64.wrap ((n : Int) + 1) = (n : Int) + 1 := by rw [IntKind.wrap_i64]; omega
              obtain ⟨q4, hq4⟩ : ∃ q, (n + 4) % 5 = q := ⟨_, rfl⟩
              obtain ⟨q1, hq1⟩ : ∃ q, (n + 1) % 5 = q := ⟨_, rfl⟩
              have m4 : q4 < 5 := by omega
              have m1 : q1 < 5 := by omega
              have e4 : ((n : Int) + 4).tmod 5 = (q4 : Int) := by rw [← hq4]; exact tmod5 (n + 4)
              have e1 : ((n : Int) + 1).tmod 5 = (q1 : Int) := by rw [← hq1]; exact tmod5 (n + 1)
              have HQ4 := Lib.hid hq4
              have HQ1 := Lib.hid hq1
              have f4 : (q4 : Int) < 5 := by omega
              have f1 : (q1 : Int) < 5 := by omega
              have p4 : (0 : Int) ≤ (q4 : Int) := by omega
              have p1 : (0 : Int) ≤ (q1 : Int) := by omega
              have hA' : Lanes 25 wr.drew ab T := HA.out.kept rfl
              have hC' : Lanes 5 wr.drew cb C := HC.out.kept rfl
              have HSF := Lib.hid (And.intro hA' hC')
              have HB' := Lib.hid (show But64 ab w wr.drew from HB.out.drew)
              have HM4 := Lib.hid m4
              have HM1 := Lib.hid m1
              clear HA HC HB hA' hC' m4 m1 hq4 hq1
              go_wp2_with fail
              refine wp_region_L (fun L w' => L.getD 20 true = false → Lanes 25 w' ab T ∧ Lanes 5 w' cb C) (by kernel_rfl) ?_
              refine wpAnyL_take (i := 0) (v := ?_) (fuel := 20) rfl (by kernel_rfl) (by kernel_rfl) (by kernel_rfl) (by kernel_rfl) (fun _ _ _ h => h) (fun L w' => by rw [getD_set_ne true (by omega)]) (fun _ => HSF.out) (.inl ⟨by rfl, ?_⟩) ?_
              rotate_left 1
              · rintro w' ⟨L, hcl, h0, hS⟩
                clear hS hcl h0
                go_simp <;> with_reducible rfl
              try simp only [Act.put, zq1, zq2, zq4, zq5, zq6]
              refine wpAnyL_take (i := 1) (v := ?_) (fuel := 19) rfl (by kernel_rfl) (by kernel_rfl) (by kernel_rfl) (by kernel_rfl) (fun _ _ _ h => h) (fun L w' => by rw [getD_set_ne true (by omega)]) (fun _ => HSF.out) (.inl ⟨by rfl, ?_⟩) ?_
              rotate_left 1
              · rintro w' ⟨L, hcl, h0, hS⟩
                clear hS hcl h0
                go_simp <;> with_reducible rfl
              try simp only [Act.put, zq1, zq2, zq3, zq4, zq5, zq6]
              refine wpAnyL_take (i := 2) (v := ?_) (fuel := 18) rfl (by kernel_rfl) (by kernel_rfl) (by kernel_rfl) (by kernel_rfl) (fun _ _ _ h => h) (fun L w' => by rw [getD_set_ne true (by omega)]) (fun _ => HSF.out) (.inl ⟨by rfl, ?_⟩) ?_
              rotate_left 1
              · rintro w' ⟨L, hcl, h0, hS⟩
                clear hS hcl h0
                go_simp <;> with_reducible rfl
              try simp only [Act.put, zq1, zq2, zq3, zq4, zq5, zq6]
              refine wpAnyL_take (i := 3) (v := ?_) (fuel := 17) rfl (by kernel_rfl) (by kernel_rfl) (by kernel_rfl) (by kernel_rfl) (fun _ _ _ h => h) (fun L w' => by rw [getD_set_ne true (by omega)]) (fun _ => HSF.out) (.inl ⟨by rfl, ?_⟩) ?_
              rotate_left 1
              · rintro w' ⟨L, hcl, h0, hS⟩
                clear hS hcl h0
                go_simp <;> with_reducible rfl
              try simp only [Act.put, zq1, zq2, zq3, zq4, zq5, zq6]
              refine wpAnyL_take (i := 4) (v := ?_) (fuel := 16) rfl (by kernel_rfl) (by kernel_rfl) (by kernel_rfl) (by kernel_rfl) (fun _ _ _ h => h) (fun L w' => by rw [getD_set_ne true (by omega)]) (fun _ => HSF.out) (.inl ⟨by rfl, ?_⟩) ?_
              rotate_left 1
              · rintro w' ⟨L, hcl, h0, hS⟩
                have hSw := hS (closedB_before hcl (i := 4) (by kernel_rfl) h0)
                have z0 := Lanes.cell hSw.1 hn2
                have z1 := Lanes.cell hSw.2 HM4.out
                have z2 := Lanes.cell hSw.2 HM1.out
                clear hS hcl h0
                go_simp <;> with_reducible rfl
              try simp only [Act.put, zq1, zq2, zq3, zq4, zq5, zq6]
              refine wpAnyL_take (i := 5) (v := ?_) (fuel := 15) rfl (by kernel_rfl) (by kernel_rfl) (by kernel_rfl) (by kernel_rfl) (fun _ _ _ h => h) (fun L w' => by rw [getD_set_ne true (by omega)]) (fun _ => HSF.out) (.inl ⟨by rfl, ?_⟩) ?_
              rotate_left 1
              · rintro w' ⟨L, hcl, h0, hS⟩
                clear hS hcl h0
                go_simp <;> with_reducible rfl
              try simp only [Act.put, zq1, zq2, zq3, zq4, zq5, zq6]
              refine wpAnyL_take (i := 6) (v := ?_) (fuel := 14) rfl (by kernel_rfl) (by kernel_rfl) (by kernel_rfl) (by kernel_rfl) (fun _ _ _ h => h) (fun L w' => by rw [getD_set_ne true (by omega)]) (fun _ => HSF.out) (.inl ⟨by rfl, ?_⟩) ?_
              rotate_left 1
              · rintro w' ⟨L, hcl, h0, hS⟩
                clear hS hcl h0
                go_simp <;> with_reducible rfl
              try simp only [Act.put, zq1, zq2, zq3, zq4, zq5, zq6]
              refine wpAnyL_take (i := 7) (v := ?_) (fuel := 13) rfl (by kernel_rfl) (by kernel_rfl) (by kernel_rfl) (by kernel_rfl) (fun _ _ _ h => h) (fun L w' => by rw [getD_set_ne true (by omega)]) (fun _ => HSF.out) (.inl ⟨by rfl, ?_⟩) ?_
              rotate_left 1
              · rintro w' ⟨L, hcl, h0, hS⟩
                clear hS hcl h0
                go_simp <;> with_reducible rfl
              try simp only [Act.put, zq1, zq2, zq3, zq4, zq5, zq6]
              refine wpAnyL_take (i := 8) (v := ?_) (fuel := 12) rfl (by kernel_rfl) (by kernel_rfl) (by kernel_rfl) (by kernel_rfl) (fun _ _ _ h => h) (fun L w' => by rw [getD_set_ne true (by omega)]) (fun _ => HSF.out) (.inl ⟨by rfl, ?_⟩) ?_
              rotate_left 1
              · rintro w' ⟨L, hcl, h0, hS⟩
                clear hS hcl h0
                go_simp <;> with_reducible rfl
              try simp only [Act.put, zq1, zq2, zq3, zq4, zq5, zq6]
              refine wpAnyL_take (i := 9) (v := ?_) (fuel := 11) rfl (by kernel_rfl) (by kernel_rfl) (by kernel_rfl) (by kernel_rfl) (fun _ _ _ h => h) (fun L w' => by rw [getD_set_ne true (by omega)]) (fun _ => HSF.out) (.inl ⟨by rfl, ?_⟩) ?_
              rotate_left 1
              · rintro w' ⟨L, hcl, h0, hS⟩
                have hSw := hS (closedB_before hcl (i := 9) (by kernel_rfl) h0)
                have z0 := Lanes.cell hSw.1 hn2
                have z1 := Lanes.cell hSw.2 HM4.out
                have z2 := Lanes.cell hSw.2 HM1.out
                clear hS hcl h0
                go_simp <;> with_reducible rfl
              try simp only [Act.put, zq1, zq2, zq3, zq4, zq5, zq6]
              refine wpAnyL_take (i := 10) (v := ?_) (fuel := 10) rfl (by kernel_rfl) (by kernel_rfl) (by kernel_rfl) (by kernel_rfl) (fun _ _ _ h => h) (fun L w' => by rw [getD_set_ne true (by omega)]) (fun _ => HSF.out) (.inl ⟨by rfl, ?_⟩) ?_
              rotate_left 1
              · rintro w' ⟨L, hcl, h0, hS⟩
                clear hS hcl h0
                go_simp <;> with_reducible rfl
              try simp only [Act.put, zq1, zq2, zq3, zq4, zq5, zq6]
              refine wpAnyL_take (i := 11) (v := ?_) (fuel := 9) rfl (by kernel_rfl) (by kernel_rfl) (by kernel_rfl) (by kernel_rfl) (fun _ _ _ h => h) (fun L w' => by rw [getD_set_ne true (by omega)]) (fun _ => HSF.out) (.inl ⟨by rfl, ?_⟩) ?_
              rotate_left 1
              · rintro w' ⟨L, hcl, h0, hS⟩
                clear hS hcl h0
                go_simp <;> with_reducible rfl
              try simp only [Act.put, zq1, zq2, zq3, zq4, zq5, zq6]
              refine wpAnyL_take (i := 12) (v := ?_) (fuel := 8) rfl (by kernel_rfl) (by kernel_rfl) (by kernel_rfl) (by kernel_rfl) (fun _ _ _ h => h) (fun L w' => by rw [getD_set_ne true (by omega)]) (fun _ => HSF.out) (.inl ⟨by rfl, ?_⟩) ?_
              rotate_left 1
              · rintro w' ⟨L, hcl, h0, hS⟩
                clear hS hcl h0
                go_simp <;> with_reducible rfl
              try simp only [Act.put, zq1, zq2, zq3, zq4, zq5, zq6]
              refine wpAnyL_take (i := 13) (v := ?_) (fuel := 7) rfl (by kernel_rfl) (by kernel_rfl) (by kernel_rfl) (by kernel_rfl) (fun _ _ _ h => h) (fun L w' => by rw [getD_set_ne true (by omega)]) (fun _ => HSF.out) (.inl ⟨by rfl, ?_⟩) ?_
              rotate_left 1
              · rintro w' ⟨L, hcl, h0, hS⟩
                clear hS hcl h0
                go_simp <;> with_reducible rfl
              try simp only [Act.put, zq1, zq2, zq3, zq4, zq5, zq6]
              refine wpAnyL_take (i := 14) (v := ?_) (fuel := 6) rfl (by kernel_rfl) (by kernel_rfl) (by kernel_rfl) (by kernel_rfl) (fun _ _ _ h => h) (fun L w' => by rw [getD_set_ne true (by omega)]) (fun _ => HSF.out) (.inl ⟨by rfl, ?_⟩) ?_
              rotate_left 1
              · rintro w' ⟨L, hcl, h0, hS⟩
                have hSw := hS (closedB_before hcl (i := 14) (by kernel_rfl) h0)
                have z0 := Lanes.cell hSw.1 hn2
                have z1 := Lanes.cell hSw.2 HM4.out
                have z2 := Lanes.cell hSw.2 HM1.out
                clear hS hcl h0
                go_simp <;> with_reducible rfl
              try simp only [Act.put, zq1, zq2, zq3, zq4, zq5, zq6]
              refine wpAnyL_take (i := 18) (v := ?_) (fuel := 5) rfl (by kernel_rfl) (by kernel_rfl) (by kernel_rfl) (by kernel_rfl) (fun _ _ _ h => h) (fun L w' => by rw [getD_set_ne true (by omega)]) (fun _ => HSF.out) (.inl ⟨by rfl, ?_⟩) ?_
              rotate_left 1
              · rintro w' ⟨L, hcl, h0, hS⟩
                clear hS hcl h0
                go_simp <;> with_reducible rfl
              try simp only [Act.put, zq1, zq2, zq3, zq4, zq5, zq6]
              refine wpAnyL_one (i := 15) (fuel := 4) (by kernel_rfl) rfl (fun K hK => ?_)
              go_simp
              go_at_call 71
              refine (rotl_one _ _).mono ?_
              rintro e w2 ⟨rfl, rfl⟩
              refine hK.out _ _ (fun h => HSF.out) (fun _ => ?_)
              clear hK K
              try simp only [Act.put, zq1, zq2, zq3, zq4, zq5, zq6]
              refine wpAnyL_take (i := 16) (v := ?_) (fuel := 3) rfl (by kernel_rfl) (by kernel_rfl) (by kernel_rfl) (by kernel_rfl) (fun _ _ _ h => h) (fun L w' => by rw [getD_set_ne true (by omega)]) (fun _ => HSF.out) (.inl ⟨by rfl, ?_⟩) ?_
              rotate_left 1
              · rintro w' ⟨L, hcl, h0, hS⟩
                clear hS hcl h0
                go_simp <;> with_reducible rfl
              try simp only [Act.put, zq1, zq2, zq3, zq4, zq5, zq6]
              refine wpAnyL_take (i := 17) (v := ?_) (fuel := 2) rfl (by kernel_rfl) (by kernel_rfl) (by kernel_rfl) (by kernel_rfl) (fun _ _ _ h => h) (fun L w' => by rw [getD_set_ne true (by omega)]) (fun _ => HSF.out) (.inl ⟨by rfl, ?_⟩) ?_
              rotate_left 1
              · rintro w' ⟨L, hcl, h0, hS⟩
                clear hS hcl h0
                go_simp <;> with_reducible rfl
              try simp only [Act.put, zq1, zq2, zq3, zq4, zq5, zq6]
              refine wpAnyL_take (i := 19) (v := ?_) (fuel := 1) rfl (by kernel_rfl) (by kernel_rfl) (by kernel_rfl) (by kernel_rfl) (fun _ _ _ h => h) (fun L w' => by rw [getD_set_ne true (by omega)]) (fun _ => HSF.out) (.inl ⟨by rfl, ?_⟩) ?_
              rotate_left 1
              · rintro w' ⟨L, hcl, h0, hS⟩
                clear hS hcl h0
                go_simp <;> with_reducible rfl
              try simp only [Act.put, zq1, zq2, zq3, zq4, zq5, zq6]
              have y1 := Lanes.cell HSF.out.1 hn2
              have y2 := Lanes.frozen HSF.out.1 n
              have y3 := HSF.out.1.lt
              refine wpAnyL_one (i := 20) (fuel := 0) (by kernel_rfl) rfl (fun K hK => ?_)
              go_simp
              refine hK.out _ _ (fun h => (by cases h)) (fun _ => ?_)
              clear hK K
              try simp only [Act.put, zq1, zq2, zq3, zq4, zq5, zq6]
              refine wpAnyL_done (by kernel_rfl) ?_ 0
              have HTN := Lib.hid (show thetaP C A1 (n + 1) = upd T n (T n ^^^ (C q4 ^^^ rotl (C q1) 1)) from by rw [← HQ4.out, ← HQ1.out, ← HTE.out]; rfl)
              clear y1 y2 y3 hw4 hw1 e4 e1 f4 f1 p4 p1
              go_wp2
              go_roundw
              case rel =>
                refine ⟨n + 1, by omega, by rw [Int.natCast_add]; rfl, Lib.hid ?_, Lib.hid ?_, Lib.hid ?_⟩
                · rw [HTN.out]
                  exact HSF.out.1.set hn2 _
                · exact HSF.out.2.setOther (Ne.symm hne) _
                · exact HB'.out.set (.inl rfl) _
              case measure => simp [intOf]; omega
            · have hn5 : n = 25 := by omega
              have g4 : ¬ ((n : Int) < 25) := by omega
              rw [hn5] at HA
              clear hn5
              obtain ⟨T, hT⟩ : ∃ T, thetaP C A1 25 = T := ⟨_, rfl⟩
              rw [hT] at HA
              have HTE := Lib.hid hT
              clear hT hn hn2 g3
              have z1 : wr.cell? ⟨ab, 1, none⟩ = some (.int .u64 (lv (T 1))) := HA.out.cell (by decide)
              go_wp2_with ((with_reducible refine load_gate64 136 ?_); refine wpList_load_mid rfl 136 _ rfl 0 0 rfl placesV _ (HK.out.range HB.out HN.out) Tryz.underlying136 rfl infoPlaces ?_)
              go_loopw [7, 60] (fun v i wr => ∃ n : Nat, n ≤ 24 ∧ v = .int .u64 (lv (rhoP T n).1) ∧ i = .int .i64 n ∧ Hid (Lanes 25 wr ab (rhoP T n).2) ∧ Hid (But64 ab w wr)) (fun _ i _ => 24 - (intOf i).toNat)
              case atStart => exact ⟨0, by omega, rfl, rfl, HA, HB⟩
              case round =>
                obtain ⟨n, hn, rfl, rfl, HA, HB⟩ := hrel
                have g3 : (0 : Int) ≤ n := by omega
                obtain ⟨v, hv⟩ : ∃ v, (rhoP T n).1 = v := ⟨_, rfl⟩
                obtain ⟨T1, hT1⟩ : ∃ T1, (rhoP T n).2 = T1 := ⟨_, rfl⟩
                rw [hT1] at HA
                rw [hv]
                by_cases hn2 : n < 24
                · have g4 : (n : Int) < 24 := by omega
                  obtain ⟨pn, hpn⟩ : ∃ q, placesL.getD n 0 = q := ⟨_, rfl⟩
                  obtain ⟨tn, htn⟩ : ∃ q, turnsL.getD n 0 = q := ⟨_, rfl⟩
                  have hix := run_index_places n hn2 wr
                  have hpl := places_lt n hn2
                  have htl := turns_lt n hn2
                  have htc := (HK.out.but HB.out HN.out).turns n hn2
                  have hgt := World.block_lt_of_cell? _ _ htc
                  rw [hpn] at hix hpl
                  rw [htn] at htl htc
                  have f1 : (0 : Int) ≤ pn := by omega
                  have f2 : (pn : Int) < 25 := by omega
                  have hA' : Lanes 25 wr.drew ab T1 := HA.out.kept rfl
                  have HSF := Lib.hid (show Lanes 25 wr.drew ab T1 ∧ wr.drew.cell? ⟨1, n, none⟩ = some (.int .i64 (tn : Int)) from ⟨hA', htc⟩)
                  have HB' := Lib.hid (show But64 ab w wr.drew from HB.out.drew)
                  have HPL := Lib.hid hpl
                  have HTL := Lib.hid htl
                  have HPN := Lib.hid hpn
                  have HTN := Lib.hid htn
                  have HV := Lib.hid hv
                  have HT1 := Lib.hid hT1
                  clear HA HB hA' hpl htl htc hpn htn hv hT1
                  go_wp2_with fail
                  clear hix
                  refine wp_region_L (fun L w' => L.getD 15 true = false → Lanes 25 w' ab T1 ∧ w'.cell? ⟨1, n, none⟩ = some (.int .i64 (tn : Int))) (by kernel_rfl) ?_
                  refine wpAnyL_take (i := 0) (v := ?_) (fuel := 15) rfl (by kernel_rfl) (by kernel_rfl) (by kernel_rfl) (by kernel_rfl) (fun _ _ _ h => h) (fun L w' => by rw [getD_set_ne true (by omega)]) (fun _ => HSF.out) (.inl ⟨by rfl, ?_⟩) ?_
                  rotate_left 1
                  · rintro w' ⟨L, hcl, h0, hS⟩
                    clear hS hcl h0
                    go_simp <;> with_reducible rfl
                  try simp only [Act.put, zq1, zq2, zq4, zq5, zq6]
                  refine wpAnyL_take (i := 1) (v := ?_) (fuel := 14) rfl (by kernel_rfl) (by kernel_rfl) (by kernel_rfl) (by kernel_rfl) (fun _ _ _ h => h) (fun L w' => by rw [getD_set_ne true (by omega)]) (fun _ => HSF.out) (.inl ⟨by rfl, ?_⟩) ?_
                  rotate_left 1
                  · rintro w' ⟨L, hcl, h0, hS⟩
                    clear hS hcl h0
                    go_simp <;> with_reducible rfl
                  try simp only [Act.put, zq1, zq2, zq3, zq4, zq5, zq6]
                  refine wpAnyL_take (i := 2) (v := ?_) (fuel := 13) rfl (by kernel_rfl) (by kernel_rfl) (by kernel_rfl) (by kernel_rfl) (fun _ _ _ h => h) (fun L w' => by rw [getD_set_ne true (by omega)]) (fun _ => HSF.out) (.inl ⟨by rfl, ?_⟩) ?_
                  rotate_left 1
                  · rintro w' ⟨L, hcl, h0, hS⟩
                    clear hS hcl h0
                    go_simp <;> with_reducible rfl
                  try simp only [Act.put, zq1, zq2, zq3, zq4, zq5, zq6]
                  refine wpAnyL_take (i := 3) (v := ?_) (fuel := 12) rfl (by kernel_rfl) (by kernel_rfl) (by kernel_rfl) (by kernel_rfl) (fun _ _ _ h => h) (fun L w' => by rw [getD_set_ne true (by omega)]) (fun _ => HSF.out) (.inl ⟨by rfl, ?_⟩) ?_
                  rotate_left 1
                  · rintro w' ⟨L, hcl, h0, hS⟩
                    clear hS hcl h0
                    go_simp <;> with_reducible rfl
                  try simp only [Act.put, zq1, zq2, zq3, zq4, zq5, zq6]
                  refine wpAnyL_take (i := 4) (v := ?_) (fuel := 11) rfl (by kernel_rfl) (by kernel_rfl) (by kernel_rfl) (by kernel_rfl) (fun _ _ _ h => h) (fun L w' => by rw [getD_set_ne true (by omega)]) (fun _ => HSF.out) (.inl ⟨by rfl, ?_⟩) ?_
                  rotate_left 1
                  · rintro w' ⟨L, hcl, h0, hS⟩
                    clear hS hcl h0
                    go_simp <;> with_reducible rfl
                  try simp only [Act.put, zq1, zq2, zq3, zq4, zq5, zq6]
                  refine wpAnyL_take (i := 5) (v := ?_) (fuel := 10) rfl (by kernel_rfl) (by kernel_rfl) (by kernel_rfl) (by kernel_rfl) (fun _ _ _ h => h) (fun L w' => by rw [getD_set_ne true (by omega)]) (fun _ => HSF.out) (.inl ⟨by rfl, ?_⟩) ?_
                  rotate_left 1
                  · rintro w' ⟨L, hcl, h0, hS⟩
                    clear hS hcl h0
                    go_simp <;> with_reducible rfl
                  try simp only [Act.put, zq1, zq2, zq3, zq4, zq5, zq6]
                  refine wpAnyL_take (i := 6) (v := ?_) (fuel := 9) rfl (by kernel_rfl) (by kernel_rfl) (by kernel_rfl) (by kernel_rfl) (fun _ _ _ h => h) (fun L w' => by rw [getD_set_ne true (by omega)]) (fun _ => HSF.out) (.inl ⟨by rfl, ?_⟩) ?_
                  rotate_left 1
                  · rintro w' ⟨L, hcl, h0, hS⟩
                    have hSw := hS (closedB_before hcl (i := 6) (by kernel_rfl) h0)
                    have z0 := Lanes.cell hSw.1 HPL.out
                    have z1 := hSw.2
                    clear hS hcl h0
                    go_simp <;> with_reducible rfl
                  try simp only [Act.put, zq1, zq2, zq3, zq4, zq5, zq6]
                  refine wpAnyL_take (i := 7) (v := ?_) (fuel := 8) rfl (by kernel_rfl) (by kernel_rfl) (by kernel_rfl) (by kernel_rfl) (fun _ _ _ h => h) (fun L w' => by rw [getD_set_ne true (by omega)]) (fun _ => HSF.out) (.inl ⟨by rfl, ?_⟩) ?_
                  rotate_left 1
                  · rintro w' ⟨L, hcl, h0, hS⟩
                    clear hS hcl h0
                    go_simp <;> with_reducible rfl
                  try simp only [Act.put, zq1, zq2, zq3, zq4, zq5, zq6]
                  refine wpAnyL_take (i := 8) (v := ?_) (fuel := 7) rfl (by kernel_rfl) (by kernel_rfl) (by kernel_rfl) (by kernel_rfl) (fun _ _ _ h => h) (fun L w' => by rw [getD_set_ne true (by omega)]) (fun _ => HSF.out) (.inl ⟨by rfl, ?_⟩) ?_
                  rotate_left 1
                  · rintro w' ⟨L, hcl, h0, hS⟩
                    clear hS hcl h0
                    go_simp <;> with_reducible rfl
                  try simp only [Act.put, zq1, zq2, zq3, zq4, zq5, zq6]
                  refine wpAnyL_take (i := 9) (v := ?_) (fuel := 6) rfl (by kernel_rfl) (by kernel_rfl) (by kernel_rfl) (by kernel_rfl) (fun _ _ _ h => h) (fun L w' => by rw [getD_set_ne true (by omega)]) (fun _ => HSF.out) (.inl ⟨by rfl, ?_⟩) ?_
                  rotate_left 1
                  · rintro w' ⟨L, hcl, h0, hS⟩
                    clear hS hcl h0
                    go_simp <;> with_reducible rfl
                  try simp only [Act.put, zq1, zq2, zq3, zq4, zq5, zq6]
                  refine wpAnyL_take (i := 10) (v := ?_) (fuel := 5) rfl (by kernel_rfl) (by kernel_rfl) (by kernel_rfl) (by kernel_rfl) (fun _ _ _ h => h) (fun L w' => by rw [getD_set_ne true (by omega)]) (fun _ => HSF.out) (.inl ⟨by rfl, ?_⟩) ?_
                  rotate_left 1
                  · rintro w' ⟨L, hcl, h0, hS⟩
                    have hSw := hS (closedB_before hcl (i := 10) (by kernel_rfl) h0)
                    have z0 := Lanes.cell hSw.1 HPL.out
                    have z1 := hSw.2
                    clear hS hcl h0
                    go_simp <;> with_reducible rfl
                  try simp only [Act.put, zq1, zq2, zq3, zq4, zq5, zq6]
                  refine wpAnyL_take (i := 13) (v := ?_) (fuel := 4) rfl (by kernel_rfl) (by kernel_rfl) (by kernel_rfl) (by kernel_rfl) (fun _ _ _ h => h) (fun L w' => by rw [getD_set_ne true (by omega)]) (fun _ => HSF.out) (.inl ⟨by rfl, ?_⟩) ?_
                  rotate_left 1
                  · rintro w' ⟨L, hcl, h0, hS⟩
                    clear hS hcl h0
                    go_simp <;> with_reducible rfl
                  try simp only [Act.put, zq1, zq2, zq3, zq4, zq5, zq6]
                  refine wpAnyL_one (i := 11) (fuel := 3) (by kernel_rfl) rfl (fun K hK => ?_)
                  go_simp
                  go_at_call 71
                  refine (rotl_any _ tn HTL.out.1 HTL.out.2 _).mono ?_
                  rintro e w2 ⟨rfl, rfl⟩
                  refine hK.out _ _ (fun h => HSF.out) (fun _ => ?_)
                  clear hK K
                  try simp only [Act.put, zq1, zq2, zq3, zq4, zq5, zq6]
                  refine wpAnyL_take (i := 12) (v := ?_) (fuel := 2) rfl (by kernel_rfl) (by kernel_rfl) (by kernel_rfl) (by kernel_rfl) (fun _ _ _ h => h) (fun L w' => by rw [getD_set_ne true (by omega)]) (fun _ => HSF.out) (.inl ⟨by rfl, ?_⟩) ?_
                  rotate_left 1
                  · rintro w' ⟨L, hcl, h0, hS⟩
                    clear hS hcl h0
                    go_simp <;> with_reducible rfl
                  try simp only [Act.put, zq1, zq2, zq3, zq4, zq5, zq6]
                  refine wpAnyL_take (i := 14) (v := ?_) (fuel := 1) rfl (by kernel_rfl) (by kernel_rfl) (by kernel_rfl) (by kernel_rfl) (fun _ _ _ h => h) (fun L w' => by rw [getD_set_ne true (by omega)]) (fun _ => HSF.out) (.inl ⟨by rfl, ?_⟩) ?_
                  rotate_left 1
                  · rintro w' ⟨L, hcl, h0, hS⟩
                    clear hS hcl h0
                    go_simp <;> with_reducible rfl
                  try simp only [Act.put, zq1, zq2, zq3, zq4, zq5, zq6]
                  have y1 := Lanes.cell HSF.out.1 HPL.out
                  have y2 := Lanes.frozen HSF.out.1 pn
                  have y3 := HSF.out.1.lt
                  refine wpAnyL_one (i := 15) (fuel := 0) (by kernel_rfl) rfl (fun K hK => ?_)
                  go_simp
                  refine hK.out _ _ (fun h => (by cases h)) (fun _ => ?_)
                  clear hK K
                  try simp only [Act.put, zq1, zq2, zq3, zq4, zq5, zq6]
                  refine wpAnyL_done (by kernel_rfl) ?_ 0
                  have HSN := Lib.hid (show rhoP T (n + 1) = (T1 pn, upd T1 pn (rotl v tn)) from by unfold rhoP; rw [HPN.out, HTN.out, HV.out, HT1.out])
                  clear y1 y2 y3 f1 f2 hgt
                  go_wp2
                  go_roundw
                  case rel =>
                    refine ⟨n + 1, by omega, by rw [HSN.out], by rw [Int.natCast_add]; rfl, Lib.hid ?_, Lib.hid ?_⟩
                    · rw [HSN.out]
                      exact HSF.out.1.set HPL.out _
                    · exact HB'.out.set (.inl rfl) _
                  case measure => simp [intOf]; omega
                · have hn5 : n = 24 := by omega
                  have g4 : ¬ ((n : Int) < 24) := by omega
                  rw [hn5] at hT1
                  clear hn5 hv
                  have HR := Lib.hid hT1
                  clear hT1 hn hn2 g3
                  go_wp2_with fail
                  obtain ⟨B0, hB0⟩ : ∃ B, (rhoP T 24).2 = B := ⟨_, rfl⟩
                  rw [hB0] at HR
                  have HRO := Lib.hid hB0
                  have hTB : T1 = B0 := HR.out.symm
                  rw [hTB] at HA
                  have HA0' := HA
                  clear hB0 HA hTB
                  go_loopw [10] (fun i wr => ∃ m y : Nat, m ≤ 5 ∧ y = 5 * m ∧ i = .int .i64 y ∧ Hid (Lanes 25 wr ab (chiP B0 m)) ∧ Hid (But64 ab w wr)) (fun i _ => 25 - (intOf i).toNat)
                  case atStart => exact ⟨0, 0, by omega, rfl, rfl, HA0', HB⟩
                  case round =>
                    obtain ⟨m, y, hm, hy, rfl, HA, HB⟩ := hrel
                    have g3 : (0 : Int) ≤ y := by omega
                    obtain ⟨B, hB⟩ : ∃ B, chiP B0 m = B := ⟨_, rfl⟩
                    rw [hB] at HA
                    have HBE := Lib.hid hB
                    have HY := Lib.hid hy
                    have HM := Lib.hid hm
                    by_cases hm2 : m < 5
                    · have g4 : (y : Int) < 25 := by omega
                      have g5 : (y : Int) + 5 ≤ 25 := by omega
                      have hw5 : IntKind.i64.wrap ((y : Int) + 5) = (y : Int) + 5 := by rw [IntKind.wrap_i64]; omega
                      have HM2 := Lib.hid hm2
                      have hal := HA.out.lt
                      clear hm hy hm2 hB
                      have hsl := run_slice25 ab y (by omega) wr
                      have har := run_arr5 ab y (25 - y) wr
                      go_wp2_with ((with_reducible refine load_gate64 134 ?_); refine wpList_load_mid rfl 134 _ rfl ab y rfl [.int .u64 (lv (B y)), .int .u64 (lv (B (y + 1))), .int .u64 (lv (B (y + 2))), .int .u64 (lv (B (y + 3))), .int .u64 (lv (B (y + 4)))] _ (HA.out.row y (by omega)) Tryz.underlying134 rfl infoRow5 ?_)
                      obtain ⟨rb, hrb⟩ : ∃ rb, wr.heap.size = rb := ⟨_, rfl⟩
                      obtain ⟨w2, hw2⟩ : ∃ W, wr.alloc (.cells #[.int .u64 (lv (B y)), .int .u64 (lv (B (y + 1))), .int .u64 (lv (B (y + 2))), .int .u64 (lv (B (y + 3))), .int .u64 (lv (B (y + 4)))] 134) = W := ⟨_, rfl⟩
                      have lr : Lanes 5 w2 rb (fun x => B (y + x)) := by rw [← hw2, ← hrb]; exact lanes_row wr B y _
                      have la : Lanes 25 w2 ab B := by rw [← hw2]; exact HA.out.alloc _
                      have lb : But64 ab w w2 := by rw [← hw2]; exact HB.out.alloc _
                      have hnr : rb ≠ ab := by omega
                      have hwr : w.heap.size ≤ rb := by rw [← hrb]; exact HB.out.size
                      rw [hw2, hrb]
                      clear hw2 hsl har HA HB hal hrb
                      obtain ⟨r0, hr0⟩ : ∃ r : Nat → UInt64, (fun x => B (y + x)) = r := ⟨_, rfl⟩
                      rw [hr0] at lr
                      have HR0 := Lib.hid hr0
                      have LR := Lib.hid lr
                      have LA := Lib.hid la
                      have LB := Lib.hid lb
                      clear hr0 lr la lb
                      go_loopw [91] (fun i wr => ∃ x : Nat, x ≤ 5 ∧ i = .int .i64 x ∧ Hid (Lanes 25 wr ab (chiRow r0 y B x)) ∧ Hid (Lanes 5 wr rb r0) ∧ Hid (But64 ab w wr)) (fun i _ => 5 - (intOf i).toNat)
                      case atStart => exact ⟨0, by omega, rfl, LA, LR, LB⟩
                      case round =>
                        obtain ⟨x, hx, rfl, HA, HR2, HB⟩ := hrel
                        have g6 : (0 : Int) ≤ x := by omega
                        by_cases hx2 : x < 5
                        · have g7 : (x : Int) < 5 := by omega
                          obtain ⟨D, hD⟩ : ∃ D, chiRow r0 y B x = D := ⟨_, rfl⟩
                          rw [hD] at HA
                          have HDE := Lib.hid hD
                          have hwy : IntKind.i64.wrap ((y : Int) + (x : Int)) = ((y + x : Nat) : Int) := by rw [IntKind.wrap_i64]; omega
                          have hw1 : IntKind.i64.wrap ((x : Int) + 1) = (x : Int) + 1 := by rw [IntKind.wrap_i64]; omega
                          have hw2 : IntKind.i64.wrap ((x : Int) + 2) = (x : Int) + 2 := by rw [IntKind.wrap_i64]; omega
                          obtain ⟨q1, hq1⟩ : ∃ q, (x + 1) % 5 = q := ⟨_, rfl⟩
                          obtain ⟨q2, hq2⟩ : ∃ q, (x + 2) % 5 = q := ⟨_, rfl⟩
                          obtain ⟨yx, hyx⟩ : ∃ q, y + x = q := ⟨_, rfl⟩
                          have e1 : ((x : Int) + 1).tmod 5 = (q1 : Int) := by rw [← hq1]; exact tmod5 (x + 1)
                          have e2 : ((x : Int) + 2).tmod 5 = (q2 : Int) := by rw [← hq2]; exact tmod5 (x + 2)
                          rw [hyx] at hwy
                          have b0 : yx < 25 := by omega
                          have b1 : q1 < 5 := by omega
                          have b2 : q2 < 5 := by omega
                          have c0 : (0 : Int) ≤ yx := by omega
                          have c1 : (yx : Int) < 25 := by omega
                          have c2 : (0 : Int) ≤ q1 := by omega
                          have c3 : (q1 : Int) < 5 := by omega
                          have c4 : (0 : Int) ≤ q2 := by omega
                          have c5 : (q2 : Int) < 5 := by omega
                          have HA' := Lib.hid (show Lanes 25 wr.drew ab D from HA.out.kept rfl)
                          have HR' := Lib.hid (show Lanes 5 wr.drew rb r0 from HR2.out.kept rfl)
                          have HB' := Lib.hid (show But64 ab w wr.drew from HB.out.drew)
                          have HQ1 := Lib.hid hq1
                          have HQ2 := Lib.hid hq2
                          have HYX := Lib.hid hyx
                          have BB0 := Lib.hid b0
                          have BB1 := Lib.hid b1
                          have BB2 := Lib.hid b2
                          clear HA HR2 HB hq1 hq2 hyx b0 b1 b2 hD
                          go_wp2_with fail
                          refine wp_region_held_drew (S := (fun W => Lanes 5 W rb r0)) (by kernel_rfl) (HR'.out) (fun hHeld => ?_)
                          refine wpAnyH_take (i := 0) (v := ?_) rfl (by kernel_rfl) (by kernel_rfl) (by kernel_rfl) (fun _ _ _ h => h) (.inl ⟨by rfl, ?_⟩) (by assumption) ?_
                          rotate_left 1
                          · intro w0 hSw
                            go_simp <;> with_reducible rfl
                          try simp only [Act.put, zq1, zq2, zq4, zq5, zq6]
                          refine wpAnyH_take (i := 1) (v := ?_) rfl (by kernel_rfl) (by kernel_rfl) (by kernel_rfl) (fun _ _ _ h => h) (.inl ⟨by rfl, ?_⟩) (by assumption) ?_
                          rotate_left 1
                          · intro w0 hSw
                            go_simp <;> with_reducible rfl
                          try simp only [Act.put, zq1, zq2, zq3, zq4, zq5, zq6]
                          refine wpAnyH_take (i := 2) (v := ?_) rfl (by kernel_rfl) (by kernel_rfl) (by kernel_rfl) (fun _ _ _ h => h) (.inl ⟨by rfl, ?_⟩) (by assumption) ?_
                          rotate_left 1
                          · intro w0 hSw
                            go_simp <;> with_reducible rfl
                          try simp only [Act.put, zq1, zq2, zq3, zq4, zq5, zq6]
                          refine wpAnyH_take (i := 3) (v := ?_) rfl (by kernel_rfl) (by kernel_rfl) (by kernel_rfl) (fun _ _ _ h => h) (.inl ⟨by rfl, ?_⟩) (by assumption) ?_
                          rotate_left 1
                          · intro w0 hSw
                            go_simp <;> with_reducible rfl
                          try simp only [Act.put, zq1, zq2, zq3, zq4, zq5, zq6]
                          refine wpAnyH_take (i := 4) (v := ?_) rfl (by kernel_rfl) (by kernel_rfl) (by kernel_rfl) (fun _ _ _ h => h) (.inl ⟨by rfl, ?_⟩) (by assumption) ?_
                          rotate_left 1
                          · intro w0 hSw
                            go_simp <;> with_reducible rfl
                          try simp only [Act.put, zq1, zq2, zq3, zq4, zq5, zq6]
                          refine wpAnyH_take (i := 5) (v := ?_) rfl (by kernel_rfl) (by kernel_rfl) (by kernel_rfl) (fun _ _ _ h => h) (.inl ⟨by rfl, ?_⟩) (by assumption) ?_
                          rotate_left 1
                          · intro w0 hSw
                            go_simp <;> with_reducible rfl
                          try simp only [Act.put, zq1, zq2, zq3, zq4, zq5, zq6]
                          refine wpAnyH_take (i := 6) (v := ?_) rfl (by kernel_rfl) (by kernel_rfl) (by kernel_rfl) (fun _ _ _ h => h) (.inl ⟨by rfl, ?_⟩) (by assumption) ?_
                          rotate_left 1
                          · intro w0 hSw
                            have z0 := Lanes.cell hSw hx2
                            have z1 := Lanes.cell hSw BB1.out
                            have z2 := Lanes.cell hSw BB2.out
                            go_simp <;> with_reducible rfl
                          try simp only [Act.put, zq1, zq2, zq3, zq4, zq5, zq6]
                          refine wpAnyH_take (i := 7) (v := ?_) rfl (by kernel_rfl) (by kernel_rfl) (by kernel_rfl) (fun _ _ _ h => h) (.inl ⟨by rfl, ?_⟩) (by assumption) ?_
                          rotate_left 1
                          · intro w0 hSw
                            go_simp <;> with_reducible rfl
                          try simp only [Act.put, zq1, zq2, zq3, zq4, zq5, zq6]
                          refine wpAnyH_take (i := 8) (v := ?_) rfl (by kernel_rfl) (by kernel_rfl) (by kernel_rfl) (fun _ _ _ h => h) (.inl ⟨by rfl, ?_⟩) (by assumption) ?_
                          rotate_left 1
                          · intro w0 hSw
                            go_simp <;> with_reducible rfl
                          try simp only [Act.put, zq1, zq2, zq3, zq4, zq5, zq6]
                          refine wpAnyH_take (i := 9) (v := ?_) rfl (by kernel_rfl) (by kernel_rfl) (by kernel_rfl) (fun _ _ _ h => h) (.inl ⟨by rfl, ?_⟩) (by assumption) ?_
                          rotate_left 1
                          · intro w0 hSw
                            go_simp <;> with_reducible rfl
                          try simp only [Act.put, zq1, zq2, zq3, zq4, zq5, zq6]
                          refine wpAnyH_take (i := 10) (v := ?_) rfl (by kernel_rfl) (by kernel_rfl) (by kernel_rfl) (fun _ _ _ h => h) (.inl ⟨by rfl, ?_⟩) (by assumption) ?_
                          rotate_left 1
                          · intro w0 hSw
                            go_simp <;> with_reducible rfl
                          try simp only [Act.put, zq1, zq2, zq3, zq4, zq5, zq6]
                          refine wpAnyH_take (i := 11) (v := ?_) rfl (by kernel_rfl) (by kernel_rfl) (by kernel_rfl) (fun _ _ _ h => h) (.inl ⟨by rfl, ?_⟩) (by assumption) ?_
                          rotate_left 1
                          · intro w0 hSw
                            have z0 := Lanes.cell hSw hx2
                            have z1 := Lanes.cell hSw BB1.out
                            have z2 := Lanes.cell hSw BB2.out
                            go_simp <;> with_reducible rfl
                          try simp only [Act.put, zq1, zq2, zq3, zq4, zq5, zq6]
                          refine wpAnyH_take (i := 12) (v := ?_) rfl (by kernel_rfl) (by kernel_rfl) (by kernel_rfl) (fun _ _ _ h => h) (.inl ⟨by rfl, ?_⟩) (by assumption) ?_
                          rotate_left 1
                          · intro w0 hSw
                            go_simp <;> with_reducible rfl
                          try simp only [Act.put, zq1, zq2, zq3, zq4, zq5, zq6]
                          refine wpAnyH_take (i := 13) (v := ?_) rfl (by kernel_rfl) (by kernel_rfl) (by kernel_rfl) (fun _ _ _ h => h) (.inl ⟨by rfl, ?_⟩) (by assumption) ?_
                          rotate_left 1
                          · intro w0 hSw
                            go_simp <;> with_reducible rfl
                          try simp only [Act.put, zq1, zq2, zq3, zq4, zq5, zq6]
                          refine wpAnyH_take (i := 14) (v := ?_) rfl (by kernel_rfl) (by kernel_rfl) (by kernel_rfl) (fun _ _ _ h => h) (.inl ⟨by rfl, ?_⟩) (by assumption) ?_
                          rotate_left 1
                          · intro w0 hSw
                            go_simp <;> with_reducible rfl
                          try simp only [Act.put, zq1, zq2, zq3, zq4, zq5, zq6]
                          refine wpAnyH_take (i := 15) (v := ?_) rfl (by kernel_rfl) (by kernel_rfl) (by kernel_rfl) (fun _ _ _ h => h) (.inl ⟨by rfl, ?_⟩) (by assumption) ?_
                          rotate_left 1
                          · intro w0 hSw
                            go_simp <;> with_reducible rfl
                          try simp only [Act.put, zq1, zq2, zq3, zq4, zq5, zq6]
                          refine wpAnyH_take (i := 16) (v := ?_) rfl (by kernel_rfl) (by kernel_rfl) (by kernel_rfl) (fun _ _ _ h => h) (.inl ⟨by rfl, ?_⟩) (by assumption) ?_
                          rotate_left 1
                          · intro w0 hSw
                            go_simp <;> with_reducible rfl
                          try simp only [Act.put, zq1, zq2, zq3, zq4, zq5, zq6]
                          refine wpAnyH_take (i := 17) (v := ?_) rfl (by kernel_rfl) (by kernel_rfl) (by kernel_rfl) (fun _ _ _ h => h) (.inl ⟨by rfl, ?_⟩) (by assumption) ?_
                          rotate_left 1
                          · intro w0 hSw
                            have z0 := Lanes.cell hSw hx2
                            have z1 := Lanes.cell hSw BB1.out
                            have z2 := Lanes.cell hSw BB2.out
                            go_simp <;> with_reducible rfl
                          try simp only [Act.put, zq1, zq2, zq3, zq4, zq5, zq6]
                          refine wpAnyH_take (i := 18) (v := ?_) rfl (by kernel_rfl) (by kernel_rfl) (by kernel_rfl) (fun _ _ _ h => h) (.inl ⟨by rfl, ?_⟩) (by assumption) ?_
                          rotate_left 1
                          · intro w0 hSw
                            go_simp <;> with_reducible rfl
                          try simp only [Act.put, zq1, zq2, zq3, zq4, zq5, zq6]
                          refine wpAnyH_take (i := 19) (v := ?_) rfl (by kernel_rfl) (by kernel_rfl) (by kernel_rfl) (fun _ _ _ h => h) (.inl ⟨by rfl, ?_⟩) (by assumption) ?_
                          rotate_left 1
                          · intro w0 hSw
                            go_simp <;> with_reducible rfl
                          try simp only [Act.put, zq1, zq2, zq3, zq4, zq5, zq6]
                          refine wpAnyH_take (i := 20) (v := ?_) rfl (by kernel_rfl) (by kernel_rfl) (by kernel_rfl) (fun _ _ _ h => h) (.inl ⟨by rfl, ?_⟩) (by assumption) ?_
                          rotate_left 1
                          · intro w0 hSw
                            go_simp <;> with_reducible rfl
                          try simp only [Act.put, zq1, zq2, zq3, zq4, zq5, zq6]
                          refine wpAnyH_take (i := 21) (v := ?_) rfl (by kernel_rfl) (by kernel_rfl) (by kernel_rfl) (fun _ _ _ h => h) (.inl ⟨by rfl, ?_⟩) (by assumption) ?_
                          rotate_left 1
                          · intro w0 hSw
                            go_simp <;> with_reducible rfl
                          try simp only [Act.put, zq1, zq2, zq3, zq4, zq5, zq6]
                          have y1 := Lanes.cell HA'.out BB0.out
                          have y2 := Lanes.frozen HA'.out yx
                          have y3 := HA'.out.lt
                          refine wpAnyH_ready (rs := [22]) (by kernel_rfl) (by simp) ?_
                          refine AllReadyH.cons rfl (fun K hK => ?_) AllReadyH.nil
                          go_simp
                          refine hK.out _ _ (hHeld.setOther hnr _) (fun hHeld => ?_)
                          clear hK K
                          try simp only [Act.put, zq1, zq2, zq3, zq4, zq5, zq6]
                          refine wpAnyH_done (by kernel_rfl) ?_ 0
                          have HDN := Lib.hid (show chiRow r0 y B (x + 1) = upd D yx (r0 x ^^^ (~~~ r0 q1 &&& r0 q2)) from by rw [← HQ1.out, ← HQ2.out, ← HDE.out, ← HYX.out]; rfl)
                          clear y1 y2 y3 hwy hw1 hw2 e1 e2 c0 c1 c2 c3 c4 c5
                          go_wp2
                          go_roundw
                          case rel =>
                            refine ⟨x + 1, by omega, by rw [Int.natCast_add]; rfl, Lib.hid ?_, Lib.hid ?_, Lib.hid ?_⟩
                            · rw [HDN.out]
                              exact HA'.out.set BB0.out _
                            · exact HR'.out.setOther hnr _
                            · exact HB'.out.set (.inl rfl) _
                          case measure => simp [intOf]; omega
                        · have hx5 : x = 5 := by omega
                          have g8 : ¬ ((x : Int) < 5) := by omega
                          rw [hx5] at HA
                          clear hx5
                          have HCN := Lib.hid (show chiP B0 (m + 1) = chiRow r0 y B 5 from by
                            show chiRow (fun x => chiP B0 m (5 * m + x)) (5 * m) (chiP B0 m) 5 = _
                            rw [HBE.out, ← HY.out, HR0.out])
                          have HM2' := HM2.out
                          have hw5 : IntKind.i64.wrap ((y : Int) + 5) = (y : Int) + 5 := by rw [IntKind.wrap_i64]; omega
                          clear HM2'
                          go_wp2
                          go_roundw
                          case rel =>
                            refine ⟨m + 1, y + 5, by have := HM2.out; omega, by have := HY.out; omega, by rw [Int.natCast_add]; rfl, Lib.hid ?_, HB⟩
                            rw [HCN.out]
                            exact HA.out
                          case measure => simp [intOf]; omega
                    · have hm5 : m = 5 := by omega
                      have g4 : ¬ ((y : Int) < 25) := by omega
                      rw [hm5] at hB
                      have HBE5 := Lib.hid hB
                      have hkc := (HK.out.but HB.out HN.out).consts k hk2
                      have hgt := World.block_lt_of_cell? _ _ hkc
                      obtain ⟨kc, hkce⟩ : ∃ c, constsL.getD k 0 = c := ⟨_, rfl⟩
                      rw [hkce] at hkc
                      have HKC := Lib.hid hkce
                      have HSF := Lib.hid (show Lanes 25 wr.drew ab B ∧ wr.drew.cell? ⟨2, k, none⟩ = some (.int .u64 (lv kc)) from ⟨HA.out.kept rfl, hkc⟩)
                      have HB' := Lib.hid (show But64 ab w wr.drew from HB.out.drew)
                      clear hm5 hB hm hy g3 HA HB hkc hkce HY HM HBE
                      go_wp2_with fail
                      refine wp_region_L (fun L w' => L.getD 10 true = false → Lanes 25 w' ab B ∧ w'.cell? ⟨2, k, none⟩ = some (.int .u64 (lv kc))) (by kernel_rfl) ?_
                      refine wpAnyL_take (i := 0) (v := ?_) (fuel := 10) rfl (by kernel_rfl) (by kernel_rfl) (by kernel_rfl) (by kernel_rfl) (fun _ _ _ h => h) (fun L w' => by rw [getD_set_ne true (by omega)]) (fun _ => HSF.out) (.inl ⟨by rfl, ?_⟩) ?_
                      rotate_left 1
                      · rintro w' ⟨L, hcl, h0, hS⟩
                        clear hS hcl h0
                        go_simp <;> with_reducible rfl
                      try simp only [Act.put, zq1, zq2, zq4, zq5, zq6]
                      refine wpAnyL_take (i := 1) (v := ?_) (fuel := 9) rfl (by kernel_rfl) (by kernel_rfl) (by kernel_rfl) (by kernel_rfl) (fun _ _ _ h => h) (fun L w' => by rw [getD_set_ne true (by omega)]) (fun _ => HSF.out) (.inl ⟨by rfl, ?_⟩) ?_
                      rotate_left 1
                      · rintro w' ⟨L, hcl, h0, hS⟩
                        clear hS hcl h0
                        go_simp <;> with_reducible rfl
                      try simp only [Act.put, zq1, zq2, zq3, zq4, zq5, zq6]
                      refine wpAnyL_take (i := 2) (v := ?_) (fuel := 8) rfl (by kernel_rfl) (by kernel_rfl) (by kernel_rfl) (by kernel_rfl) (fun _ _ _ h => h) (fun L w' => by rw [getD_set_ne true (by omega)]) (fun _ => HSF.out) (.inl ⟨by rfl, ?_⟩) ?_
                      rotate_left 1
                      · rintro w' ⟨L, hcl, h0, hS⟩
                        clear hS hcl h0
                        go_simp <;> with_reducible rfl
                      try simp only [Act.put, zq1, zq2, zq3, zq4, zq5, zq6]
                      refine wpAnyL_take (i := 3) (v := ?_) (fuel := 7) rfl (by kernel_rfl) (by kernel_rfl) (by kernel_rfl) (by kernel_rfl) (fun _ _ _ h => h) (fun L w' => by rw [getD_set_ne true (by omega)]) (fun _ => HSF.out) (.inl ⟨by rfl, ?_⟩) ?_
                      rotate_left 1
                      · rintro w' ⟨L, hcl, h0, hS⟩
                        have hSw := hS (closedB_before hcl (i := 3) (by kernel_rfl) h0)
                        have z0 := Lanes.cell hSw.1 (show 0 < 25 by decide)
                        have z1 := hSw.2
                        clear hS hcl h0
                        go_simp <;> with_reducible rfl
                      try simp only [Act.put, zq1, zq2, zq3, zq4, zq5, zq6]
                      refine wpAnyL_take (i := 4) (v := ?_) (fuel := 6) rfl (by kernel_rfl) (by kernel_rfl) (by kernel_rfl) (by kernel_rfl) (fun _ _ _ h => h) (fun L w' => by rw [getD_set_ne true (by omega)]) (fun _ => HSF.out) (.inl ⟨by rfl, ?_⟩) ?_
                      rotate_left 1
                      · rintro w' ⟨L, hcl, h0, hS⟩
                        clear hS hcl h0
                        go_simp <;> with_reducible rfl
                      try simp only [Act.put, zq1, zq2, zq3, zq4, zq5, zq6]
                      refine wpAnyL_take (i := 5) (v := ?_) (fuel := 5) rfl (by kernel_rfl) (by kernel_rfl) (by kernel_rfl) (by kernel_rfl) (fun _ _ _ h => h) (fun L w' => by rw [getD_set_ne true (by omega)]) (fun _ => HSF.out) (.inl ⟨by rfl, ?_⟩) ?_
                      rotate_left 1
                      · rintro w' ⟨L, hcl, h0, hS⟩
                        clear hS hcl h0
                        go_simp <;> with_reducible rfl
                      try simp only [Act.put, zq1, zq2, zq3, zq4, zq5, zq6]
                      refine wpAnyL_take (i := 6) (v := ?_) (fuel := 4) rfl (by kernel_rfl) (by kernel_rfl) (by kernel_rfl) (by kernel_rfl) (fun _ _ _ h => h) (fun L w' => by rw [getD_set_ne true (by omega)]) (fun _ => HSF.out) (.inl ⟨by rfl, ?_⟩) ?_
                      rotate_left 1
                      · rintro w' ⟨L, hcl, h0, hS⟩
                        have hSw := hS (closedB_before hcl (i := 6) (by kernel_rfl) h0)
                        have z0 := Lanes.cell hSw.1 (show 0 < 25 by decide)
                        have z1 := hSw.2
                        clear hS hcl h0
                        go_simp <;> with_reducible rfl
                      try simp only [Act.put, zq1, zq2, zq3, zq4, zq5, zq6]
                      refine wpAnyL_take (i := 7) (v := ?_) (fuel := 3) rfl (by kernel_rfl) (by kernel_rfl) (by kernel_rfl) (by kernel_rfl) (fun _ _ _ h => h) (fun L w' => by rw [getD_set_ne true (by omega)]) (fun _ => HSF.out) (.inl ⟨by rfl, ?_⟩) ?_
                      rotate_left 1
                      · rintro w' ⟨L, hcl, h0, hS⟩
                        clear hS hcl h0
                        go_simp <;> with_reducible rfl
                      try simp only [Act.put, zq1, zq2, zq3, zq4, zq5, zq6]
                      refine wpAnyL_take (i := 8) (v := ?_) (fuel := 2) rfl (by kernel_rfl) (by kernel_rfl) (by kernel_rfl) (by kernel_rfl) (fun _ _ _ h => h) (fun L w' => by rw [getD_set_ne true (by omega)]) (fun _ => HSF.out) (.inl ⟨by rfl, ?_⟩) ?_
                      rotate_left 1
                      · rintro w' ⟨L, hcl, h0, hS⟩
                        clear hS hcl h0
                        go_simp <;> with_reducible rfl
                      try simp only [Act.put, zq1, zq2, zq3, zq4, zq5, zq6]
                      refine wpAnyL_take (i := 9) (v := ?_) (fuel := 1) rfl (by kernel_rfl) (by kernel_rfl) (by kernel_rfl) (by kernel_rfl) (fun _ _ _ h => h) (fun L w' => by rw [getD_set_ne true (by omega)]) (fun _ => HSF.out) (.inl ⟨by rfl, ?_⟩) ?_
                      rotate_left 1
                      · rintro w' ⟨L, hcl, h0, hS⟩
                        clear hS hcl h0
                        go_simp <;> with_reducible rfl
                      try simp only [Act.put, zq1, zq2, zq3, zq4, zq5, zq6]
                      have y1 := Lanes.cell HSF.out.1 (show 0 < 25 by decide)
                      have y2 := Lanes.frozen HSF.out.1 0
                      have y3 := HSF.out.1.lt
                      refine wpAnyL_one (i := 10) (fuel := 0) (by kernel_rfl) rfl (fun K hK => ?_)
                      go_simp
                      refine hK.out _ _ (fun h => (by cases h)) (fun _ => ?_)
                      clear hK K
                      try simp only [Act.put, zq1, zq2, zq3, zq4, zq5, zq6]
                      refine wpAnyL_done (by kernel_rfl) ?_ 0
                      have HPN := Lib.hid (show permP A (k + 1) = upd B 0 (B 0 ^^^ kc) from by
                        show roundP (permP A k) k = _
                        unfold roundP
                        rw [HAE.out, HCE.out, HTE.out]
                        show upd (chiP (rhoP T 24).2 5) 0 (chiP (rhoP T 24).2 5 0 ^^^ constsL.getD k 0) = _
                        rw [HRO.out, HBE5.out, HKC.out])
                      clear y1 y2 y3 g4 hgt
                      go_wp2
                      go_roundw
                      case rel =>
                        refine ⟨k + 1, by omega, by rw [Int.natCast_add]; rfl, Lib.hid ?_, Lib.hid ?_⟩
                        · rw [HPN.out]
                          exact HSF.out.1.set (by decide) _
                        · exact HB'.out.set (.inl rfl) _
                      case measure => simp [intOf]; omega
        
    · have g2 : ¬ ((k : Int) < 24) := by omega
      have hk5 : k = 24 := by omega
      rw [hk5] at HL
      clear hk5
      go_wp2
      go_end0
      exact ⟨⟨_, rfl⟩, HL.out, HB.out⟩
end Go.Proofs.YtlelgbmbmajfmaaGreatDoor
