/- Contract of keccak.Sum. -/
import Derived.Test.YthicdhnjincflaaDoorKecB
import Derived.Test.YthicdhnjincflaaDoorKecJ
import Derived.Scope
namespace Go.Proofs.YthicdhnjincflaaDoor
open Go.RowKit Go.Shelf Go.Lib
attribute [local go_sem] Oper.semAt_some lv_and lv_or lv_xor lv_not lv_notM lv_notI

theorem bv8_xor (a b : UInt8) : bits .xor .u8 (a.toNat : Int) (b.toNat : Int) = ((a ^^^ b).toNat : Int) := by
  have h1 : ∀ x : UInt8, BitVec.ofInt 8 (x.toNat : Int) = x.toBitVec := fun x => by
    rw [BitVec.ofInt_natCast]
    exact (BitVec.ofNat_toNat 8 x.toBitVec).trans (BitVec.setWidth_eq _)
  show IntKind.u8.wrap ((BitVec.ofInt 8 (a.toNat : Int) ^^^ BitVec.ofInt 8 (b.toNat : Int)).toNat : Int) = _
  rw [h1, h1]
  have h2 : (a.toBitVec ^^^ b.toBitVec).toNat < 256 := (a.toBitVec ^^^ b.toBitVec).isLt
  rw [IntKind.wrap_u8]
  show _ = ((a.toBitVec ^^^ b.toBitVec).toNat : Int)
  omega
/-- a byte of lanes -/
def outB (a : Nat → UInt64) (i : Nat) : UInt8 := (a (i / 8) >>> UInt64.ofNat (8 * (i % 8))).toUInt8
theorem at8_zero (N : Nat) (w : World) (t : TypeId) : At8 (w.alloc (.cells (List.replicate N (Value.int .u8 0)).toArray t)) w.heap.size (fun _ => 0) N := fun j hj => by
  have h := World.alloc_heap_new w (.cells (List.replicate N (Value.int .u8 0)).toArray t)
  refine ⟨?_, ?_⟩
  · rw [World.cell?, h]
    simp [hj]
  · rw [World.frozen?, h]
    simp
/-- a row's length -/
def lenOf : Value → Nat
  | .slice _ n _ => n
  | _ => 0
theorem kzeros_rep (s : List UInt8) (z : Nat) (h : (s.length + 1 + z) % 136 = 0) (hz : z < 136) : s ++ 1 :: List.replicate z 0 = kzeros s := by
  unfold kzeros
  congr 3
  omega
set_option maxRecDepth 100000 in
set_option maxHeartbeats 6400000 in
theorem kecSum_any (v : Value) (ps : List ByteArray) (w : World) (hv : Strs w v ps) (hN : ps.length ≤ 1099511627776) (hlen : (lettersOf ps).length ≤ 1099511627776) (hK : KecT w) :
    Calls Tryd.prog 37 #[v] w fun e w' => e = .returned (.string ⟨(keccakL (lettersOf ps)).toArray⟩) ∧ Below w.heap.size w w' := by
  have hJ := Lib.hid (join_any v ps w hv hN hlen)
  obtain ⟨p, c, rfl, -⟩ := hv
  obtain ⟨s, hs⟩ : ∃ s, lettersOf ps = s := ⟨_, rfl⟩
  rw [hs] at hJ hlen ⊢
  have HK := Lib.hid hK
  clear hK hs
  go_enter Tryd.func37, Tryd.ntmps37
  go_wp2_with fail
  refine wp_scope_straight ?_
  go_wp2_with fail
  refine hJ.out.mono ?_
  rintro e w1 ⟨rfl, hb1⟩
  have HB1 := Lib.hid hb1
  clear hb1
  have hL0 : s.length + 1 ≤ 1099511627777 := by omega
  go_wp2_with ((with_reducible refine conv_gate 9 24 ?_); refine wpList_bytesOf rfl 9 24 _ rfl 5 Tryd.underlying9 Tryd.underlying24 Tryd.underlying5 ⟨(s ++ [1]).toArray⟩ (by first | rfl | (rw [← app_one]; rfl)) ?_; intro v0 w2 ho0 hgr; have HO0 := Lib.hid ho0; have HGR := Lib.hid hgr; clear ho0 hgr)
  have hb2 : Below w.heap.size w w2 := (HB1.out.grown HGR.out HB1.out.size (fun r e => by cases e))
  have ho2 : OwnC w.heap.size w2 v0 (s ++ 1 :: List.replicate 0 0) := by
    have := HO0.out.base HB1.out.size
    exact this
  obtain ⟨zm, hzm⟩ : ∃ z, (136 - (s.length + 1) % 136) % 136 = z := ⟨_, rfl⟩
  have HZM := Lib.hid hzm
  have HO2 := Lib.hid ho2
  have HB2 := Lib.hid hb2
  clear ho2 hb2 hzm HO0 HGR
  go_loopw [3] (fun b wr => ∃ z : Nat, z ≤ zm ∧ Hid (OwnC w.heap.size wr b (s ++ 1 :: List.replicate z 0)) ∧ Hid (Below w.heap.size w wr)) (fun b _ => s.length + 1 + zm - lenOf b)
  case atStart => exact ⟨0, Nat.zero_le _, HO2, HB2⟩
  case round =>
    obtain ⟨z, hz, HO, HB⟩ := hrel
    obtain ⟨pb, cb, rfl⟩ := HO.out.form
    have hLz : (s ++ 1 :: List.replicate z 0).length = s.length + 1 + z := by rw [List.length_append, List.length_cons, List.length_replicate]; omega
    have hzm2 : zm < 136 := by have := HZM.out; omega
    obtain ⟨L, hL⟩ : ∃ L, (s ++ 1 :: List.replicate z 0).length = L := ⟨_, rfl⟩
    rw [hL] at hLz HO ⊢
    have HL := Lib.hid hL
    have HLZ := Lib.hid hLz
    obtain ⟨q, hq⟩ : ∃ q, L % 136 = q := ⟨_, rfl⟩
    have e1 : (L : Int).tmod 136 = (q : Int) := by rw [← hq, Int.tmod_eq_emod_of_nonneg (by omega)]; omega
    by_cases hq0 : q = 0
    · have g3 : ¬ ((0 : Int) < (q : Int)) := by omega
      have hzz : z = zm := by have := HZM.out; omega
      have hkz : s ++ 1 :: List.replicate z 0 = kzeros s := by
        refine kzeros_rep s z (by omega) (by omega)
      have hrow : ∃ g, pb = some ⟨g, 0, none⟩ ∧ w.heap.size ≤ g ∧ g < wr.heap.size ∧ L ≤ cb ∧ At8 wr g (fun j => (kzeros s).getD j 0) L := by
        have h := HO.out
        rw [hkz] at h
        rcases h with ⟨h1, h2⟩ | ⟨g, cap, h1, h2, h3, h4, h5, h6⟩
        · cases h1; omega
        · cases h1
          refine ⟨g, rfl, h2, h3, by omega, fun j hj => ⟨?_, (h6 j (by omega)).2⟩⟩
          refine h5 j _ ?_
          have hj2 : j < (kzeros s).length := by rw [← hkz]; omega
          simp only [Lib.byteCells, List.getElem?_map, List.getD_eq_getElem?_getD, List.getElem?_eq_getElem hj2]
          rfl
      obtain ⟨g, rfl, hg0, hg1, hcap, h8⟩ := hrow
      have hKL : (kzeros s).length = L := by rw [← hkz]; exact hL
      have hL1 : 1 ≤ L := by omega
      have hL2 : L ≤ 1099511627776 + 137 := by omega
      have HKL := Lib.hid hKL
      obtain ⟨K, hKz⟩ : ∃ K, kzeros s = K := ⟨_, rfl⟩
      rw [hKz] at h8 hKL
      have HKZ := Lib.hid hKz
      have HQ0 := Lib.hid (show L % 136 = 0 from by omega)
      have hwm : IntKind.i64.wrap ((L : Int) - 1) = ((L - 1 : Nat) : Int) := by rw [IntKind.wrap_i64]; omega
      obtain ⟨m, hm⟩ : ∃ m, L - 1 = m := ⟨_, rfl⟩
      rw [hm] at hwm
      have hmL : m < L := by omega
      have i0 : (0 : Int) ≤ m := by omega
      have i1 : (m : Int) < L := by omega
      have i2 : (1 : Int) ≤ L := by omega
      have y1 := (h8 m hmL).1
      have y2 := (h8 m hmL).2
      obtain ⟨x, hx⟩ : ∃ x, K.getD m 0 = x := ⟨_, rfl⟩
      dsimp only at y1
      rw [hx] at y1
      obtain ⟨y, hy⟩ : ∃ y, x ^^^ 128 = y := ⟨_, rfl⟩
      have hxo : bits .xor .u8 (x.toNat : Int) 128 = (y.toNat : Int) := by
        rw [← hy]
        exact bv8_xor x 128
      have hP8 : At8 (wr.setCell ⟨g, m, none⟩ (.int .u8 (y.toNat : Int))) g (fun j => (kpad s).getD j 0) L := by
        have h := At8.set h8 hmL y
        refine fun j hj => ⟨?_, (h j hj).2⟩
        have h' := (h j hj).1
        rw [h']
        show some (Value.int .u8 (((if j = m then y else K.getD j 0).toNat : Nat) : Int)) = _
        have hkp : (kpad s).getD j 0 = if j = m then y else K.getD j 0 := by
          unfold kpad klast
          rw [hKz, hKL, hm, hx, List.getD_eq_getElem?_getD, List.getElem?_set]
          by_cases hjm : m = j
          · subst hjm
            rw [if_pos rfl, if_pos (by omega), if_pos rfl, ← hy]
            rfl
          · rw [if_neg hjm, if_neg (fun e => hjm e.symm), List.getD_eq_getElem?_getD]
        show _ = some (Value.int .u8 ((((kpad s).getD j 0).toNat : Nat) : Int))
        rw [hkp]
      have HP8 := Lib.hid hP8
      have HX := Lib.hid hx
      have HM := Lib.hid hm
      have HML := Lib.hid hmL
      have H8 := Lib.hid h8
      have HG0 := Lib.hid hg0
      have HCAP := Lib.hid hcap
      have HLE := Lib.hid (show L % 136 = 0 ∧ 136 ≤ L from ⟨by omega, by omega⟩)
      have HPL := Lib.hid (show (kpad s).length = L from by rw [kpad_length, HKL.out])
      have HL2 := Lib.hid hL2
      clear hL hLz hz hzm2 hq hq0 hzz hkz HO hKL hKz h8 hx hm hmL hL0 hg0 hy hP8
      go_wp2_with fail
      obtain ⟨ab, hab⟩ : ∃ ab, wr.heap.size = ab := ⟨_, rfl⟩
      obtain ⟨wm, hwm2⟩ : ∃ W, wr.setCell ⟨g, m, none⟩ (.int .u8 (y.toNat : Int)) = W := ⟨_, rfl⟩
      have hsz : wm.heap.size = ab := by rw [← hwm2, World.size_setCell, hab]
      have hb2 : Below w.heap.size w wm := by rw [← hwm2]; exact HB.out.setCell (p := ⟨g, m, none⟩) HG0.out _
      have hp2 : At8 wm g (fun j => (kpad s).getD j 0) L := by rw [← hwm2]; exact HP8.out
      have la := lanes_zero 25 wm 81
      rw [hsz] at la
      obtain ⟨w3, hw3⟩ : ∃ W, wm.alloc (.cells #[.int .u64 0, .int .u64 0, .int .u64 0, .int .u64 0, .int .u64 0, .int .u64 0, .int .u64 0, .int .u64 0, .int .u64 0, .int .u64 0, .int .u64 0, .int .u64 0, .int .u64 0, .int .u64 0, .int .u64 0, .int .u64 0, .int .u64 0, .int .u64 0, .int .u64 0, .int .u64 0, .int .u64 0, .int .u64 0, .int .u64 0, .int .u64 0, .int .u64 0] 81) = W := ⟨_, rfl⟩
      have la3 : Lanes 25 w3 ab zeroL := by rw [← hw3]; exact la
      have hb3 : Below w.heap.size w w3 := by rw [← hw3]; exact hb2.alloc hb2.size _
      have hgab : g < ab := by omega
      have hp3 : At8 w3 g (fun j => (kpad s).getD j 0) L := by rw [← hw3]; exact hp2.of_block (Below.heap_alloc _ _ _ (by omega))
      have hwab : w.heap.size ≤ ab := by rw [← hab]; exact HB.out.size
      have LA := Lib.hid la3
      have LB := Lib.hid hb3
      have LP := Lib.hid hp3
      rw [hab, hwm2, hw3]
      obtain ⟨P, hP⟩ : ∃ P, kpad s = P := ⟨_, rfl⟩
      rw [hP] at LP
      have HPE := Lib.hid hP
      clear hw3 hwm2 hab hsz hb2 hp2 la la3 hb3 hp3 HP8 hP y1 y2 hxo hwm HB
      have HGA := Lib.hid hgab
      have HWA := Lib.hid hwab
      have k1 := World.block_lt_of_cell? _ _ (HK.out.places 0 (by decide))
      have k2 := World.block_lt_of_cell? _ _ (HK.out.turns 0 (by decide))
      have k3 := World.block_lt_of_cell? _ _ (HK.out.consts 0 (by decide))
      dsimp only at k1 k2 k3
      have HNT := Lib.hid (show NotTab ab from ⟨by omega, by omega, by omega⟩)
      clear k1 k2 k3
      refine wp_label ?_
      go_wp2_with fail
      go_loopw [3] (fun b wr => ∃ k o n cc : Nat, o = 136 * k ∧ o + n = L ∧ 136 ≤ n ∧ n ≤ cc ∧ b = .slice (some ⟨g, o, none⟩) n cc ∧ Hid (Lanes 25 wr ab (blkP P k)) ∧ Hid (At8 wr g (fun j => P.getD j 0) L) ∧ Hid (Below w.heap.size w wr)) (fun b _ => lenOf b)
      case atStart => exact ⟨0, 0, L, cb, rfl, by omega, HLE.out.2, by have := HCAP.out; omega, rfl, LA, LP, LB⟩
      case round =>
        clear LA LP LB
        obtain ⟨k, o, n, cc, ho, hon, hn136, hncc, rfl, HA, HP, HB⟩ := hrel
        go_wp2_with fail
        obtain ⟨A, hA⟩ : ∃ A, blkP P k = A := ⟨_, rfl⟩
        rw [hA] at HA
        have HAE := Lib.hid hA
        have HO := Lib.hid ho
        have HON := Lib.hid hon
        have HN1 := Lib.hid hn136
        have HN2 := Lib.hid hncc
        clear hA ho hon hn136 hncc
        go_loopw [27] (fun i wr => ∃ t : Nat, t ≤ 136 ∧ i = .int .i64 t ∧ Hid (Lanes 25 wr ab (absN P o A t)) ∧ Hid (At8 wr g (fun j => P.getD j 0) L) ∧ Hid (Below w.heap.size w wr)) (fun i _ => 136 - (RowKit.intOf i).toNat)
        case atStart => exact ⟨0, by omega, rfl, HA, HP, HB⟩
        case round =>
          clear HA HP HB
          obtain ⟨t, ht, rfl, HA, HP, HB⟩ := hrel
          have g3 : (0 : Int) ≤ t := by omega
          by_cases ht2 : t < 136
          · have g4 : (t : Int) < 136 := by omega
            obtain ⟨D, hD⟩ : ∃ D, absN P o A t = D := ⟨_, rfl⟩
            rw [hD] at HA
            have HDE := Lib.hid hD
            obtain ⟨q8, hq8⟩ : ∃ q, t / 8 = q := ⟨_, rfl⟩
            obtain ⟨r8, hr8⟩ : ∃ q, t % 8 = q := ⟨_, rfl⟩
            have e1 : (t : Int).tdiv 8 = (q8 : Int) := by rw [← hq8, Int.tdiv_eq_ediv_of_nonneg (by omega)]; omega
            have e2 : (t : Int).tmod 8 = (r8 : Int) := by rw [← hr8, Int.tmod_eq_emod_of_nonneg (by omega)]; omega
            have b1 : q8 < 25 := by omega
            have hwq : IntKind.i64.wrap (q8 : Int) = (q8 : Int) := by rw [IntKind.wrap_i64]; omega
            have b2 : r8 < 8 := by omega
            have c1 : (0 : Int) ≤ q8 := by omega
            have c2 : (q8 : Int) < 25 := by omega
            obtain ⟨sh, hsh⟩ : ∃ q, 8 * r8 = q := ⟨_, rfl⟩
            have e3 : IntKind.i64.wrap (8 * (r8 : Int)) = (sh : Int) := by rw [IntKind.wrap_i64]; omega
            have c3 : (0 : Int) ≤ sh := by omega
            have c4 : (t : Int) < n := by have := HN1.out; omega
            have c5 : t < n := by have := HN1.out; omega
            obtain ⟨ot, hot⟩ : ∃ q, o + t = q := ⟨_, rfl⟩
            have b3 : ot < L := by have := HON.out; omega
            obtain ⟨x, hx⟩ : ∃ x, P.getD ot 0 = x := ⟨_, rfl⟩
            obtain ⟨X, hX⟩ : ∃ X, x.toUInt64 = X := ⟨_, rfl⟩
            have e4 : IntKind.u64.wrap (x.toNat : Int) = lv X := by
              rw [← hX]
              have h1 := wrap64_nat x.toNat (by have := x.toNat_lt; omega)
              rw [h1]
              unfold lv
              simp
            have e5 : IntKind.u64.wrap (lv X * 2 ^ min sh 64) = lv (X <<< UInt64.ofNat sh) := by
              rw [Nat.min_eq_left (show sh ≤ 64 by omega)]
              have h := lv_shl X sh (by omega)
              rw [Int.natCast_pow] at h
              rw [IntKind.wrap_u64]
              exact h
            have hA' : Lanes 25 wr.drew ab D := HA.out.kept rfl
            have hP' : At8 wr.drew g (fun j => P.getD j 0) L := HP.out.of_block rfl
            have HSF := Lib.hid (And.intro hA' hP')
            have HB' := Lib.hid (show Below w.heap.size w wr.drew from HB.out.drew)
            have HX := Lib.hid hx
            have HXX := Lib.hid hX
            have HOT := Lib.hid hot
            have HSH := Lib.hid hsh
            have HQ8 := Lib.hid hq8
            have HR8 := Lib.hid hr8
            have BB1 := Lib.hid b1
            have BB3 := Lib.hid b3
            clear hx hX hsh hq8 hr8 b1 b2 b3 hA' hP' HA HP HB hD
            go_wp2_with fail
            refine wp_region_L (fun Ls w' => Ls.getD 15 true = false → Lanes 25 w' ab D ∧ At8 w' g (fun j => P.getD j 0) L) (by kernel_rfl) ?_
            refine wpAnyL_take (i := 0) (v := ?_) (fuel := 15) rfl (by kernel_rfl) (by kernel_rfl) (by kernel_rfl) (by kernel_rfl) (fun _ _ _ h => h) (fun Ls w' => by rw [getD_set_ne true (by omega)]) (fun _ => HSF.out) (.inl ⟨by rfl, ?_⟩) ?_
            rotate_left 1
            · rintro w' ⟨Ls, hcl, h0, hS⟩
              clear hS hcl h0
              go_simp <;> with_reducible rfl
            try simp only [Act.put, List.getElem_toArray, List.getElem_cons_zero, List.setIfInBounds_toArray, List.set_cons_zero, List.set_cons_succ]
            refine wpAnyL_take (i := 1) (v := ?_) (fuel := 14) rfl (by kernel_rfl) (by kernel_rfl) (by kernel_rfl) (by kernel_rfl) (fun _ _ _ h => h) (fun Ls w' => by rw [getD_set_ne true (by omega)]) (fun _ => HSF.out) (.inl ⟨by rfl, ?_⟩) ?_
            rotate_left 1
            · rintro w' ⟨Ls, hcl, h0, hS⟩
              clear hS hcl h0
              go_simp <;> with_reducible rfl
            try simp only [Act.put, List.getElem_toArray, List.getElem_cons_zero, List.getElem_cons_succ, List.setIfInBounds_toArray, List.set_cons_zero, List.set_cons_succ]
            refine wpAnyL_take (i := 2) (v := ?_) (fuel := 13) rfl (by kernel_rfl) (by kernel_rfl) (by kernel_rfl) (by kernel_rfl) (fun _ _ _ h => h) (fun Ls w' => by rw [getD_set_ne true (by omega)]) (fun _ => HSF.out) (.inl ⟨by rfl, ?_⟩) ?_
            rotate_left 1
            · rintro w' ⟨Ls, hcl, h0, hS⟩
              clear hS hcl h0
              go_simp <;> with_reducible rfl
            try simp only [Act.put, List.getElem_toArray, List.getElem_cons_zero, List.getElem_cons_succ, List.setIfInBounds_toArray, List.set_cons_zero, List.set_cons_succ]
            refine wpAnyL_take (i := 3) (v := ?_) (fuel := 12) rfl (by kernel_rfl) (by kernel_rfl) (by kernel_rfl) (by kernel_rfl) (fun _ _ _ h => h) (fun Ls w' => by rw [getD_set_ne true (by omega)]) (fun _ => HSF.out) (.inl ⟨by rfl, ?_⟩) ?_
            rotate_left 1
            · rintro w' ⟨Ls, hcl, h0, hS⟩
              have hSw := hS (closedB_before hcl (i := 3) (by kernel_rfl) h0)
              have z0 := Lanes.cell hSw.1 BB1.out
              have z1 := (hSw.2 ot BB3.out).1
              dsimp only at z1
              rw [HX.out] at z1
              clear hS hcl h0
              go_simp <;> with_reducible rfl
            try simp only [Act.put, List.getElem_toArray, List.getElem_cons_zero, List.getElem_cons_succ, List.setIfInBounds_toArray, List.set_cons_zero, List.set_cons_succ]
            refine wpAnyL_take (i := 4) (v := ?_) (fuel := 11) rfl (by kernel_rfl) (by kernel_rfl) (by kernel_rfl) (by kernel_rfl) (fun _ _ _ h => h) (fun Ls w' => by rw [getD_set_ne true (by omega)]) (fun _ => HSF.out) (.inl ⟨by rfl, ?_⟩) ?_
            rotate_left 1
            · rintro w' ⟨Ls, hcl, h0, hS⟩
              clear hS hcl h0
              go_simp <;> with_reducible rfl
            try simp only [Act.put, List.getElem_toArray, List.getElem_cons_zero, List.getElem_cons_succ, List.setIfInBounds_toArray, List.set_cons_zero, List.set_cons_succ]
            refine wpAnyL_take (i := 5) (v := ?_) (fuel := 10) rfl (by kernel_rfl) (by kernel_rfl) (by kernel_rfl) (by kernel_rfl) (fun _ _ _ h => h) (fun Ls w' => by rw [getD_set_ne true (by omega)]) (fun _ => HSF.out) (.inl ⟨by rfl, ?_⟩) ?_
            rotate_left 1
            · rintro w' ⟨Ls, hcl, h0, hS⟩
              clear hS hcl h0
              go_simp <;> with_reducible rfl
            try simp only [Act.put, List.getElem_toArray, List.getElem_cons_zero, List.getElem_cons_succ, List.setIfInBounds_toArray, List.set_cons_zero, List.set_cons_succ]
            refine wpAnyL_take (i := 6) (v := ?_) (fuel := 9) rfl (by kernel_rfl) (by kernel_rfl) (by kernel_rfl) (by kernel_rfl) (fun _ _ _ h => h) (fun Ls w' => by rw [getD_set_ne true (by omega)]) (fun _ => HSF.out) (.inl ⟨by rfl, ?_⟩) ?_
            rotate_left 1
            · rintro w' ⟨Ls, hcl, h0, hS⟩
              clear hS hcl h0
              go_simp <;> with_reducible rfl
            try simp only [Act.put, List.getElem_toArray, List.getElem_cons_zero, List.getElem_cons_succ, List.setIfInBounds_toArray, List.set_cons_zero, List.set_cons_succ]
            refine wpAnyL_take (i := 7) (v := ?_) (fuel := 8) rfl (by kernel_rfl) (by kernel_rfl) (by kernel_rfl) (by kernel_rfl) (fun _ _ _ h => h) (fun Ls w' => by rw [getD_set_ne true (by omega)]) (fun _ => HSF.out) (.inl ⟨by rfl, ?_⟩) ?_
            rotate_left 1
            · rintro w' ⟨Ls, hcl, h0, hS⟩
              have hSw := hS (closedB_before hcl (i := 7) (by kernel_rfl) h0)
              have z0 := Lanes.cell hSw.1 BB1.out
              have z1 := (hSw.2 ot BB3.out).1
              dsimp only at z1
              rw [HX.out] at z1
              clear hS hcl h0
              go_simp <;> with_reducible rfl
            try simp only [Act.put, List.getElem_toArray, List.getElem_cons_zero, List.getElem_cons_succ, List.setIfInBounds_toArray, List.set_cons_zero, List.set_cons_succ]
            refine wpAnyL_take (i := 8) (v := ?_) (fuel := 7) rfl (by kernel_rfl) (by kernel_rfl) (by kernel_rfl) (by kernel_rfl) (fun _ _ _ h => h) (fun Ls w' => by rw [getD_set_ne true (by omega)]) (fun _ => HSF.out) (.inl ⟨by rfl, ?_⟩) ?_
            rotate_left 1
            · rintro w' ⟨Ls, hcl, h0, hS⟩
              clear hS hcl h0
              go_simp <;> with_reducible rfl
            try simp only [Act.put, List.getElem_toArray, List.getElem_cons_zero, List.getElem_cons_succ, List.setIfInBounds_toArray, List.set_cons_zero, List.set_cons_succ]
            refine wpAnyL_take (i := 9) (v := ?_) (fuel := 6) rfl (by kernel_rfl) (by kernel_rfl) (by kernel_rfl) (by kernel_rfl) (fun _ _ _ h => h) (fun Ls w' => by rw [getD_set_ne true (by omega)]) (fun _ => HSF.out) (.inl ⟨by rfl, ?_⟩) ?_
            rotate_left 1
            · rintro w' ⟨Ls, hcl, h0, hS⟩
              clear hS hcl h0
              go_simp <;> with_reducible rfl
            try simp only [Act.put, List.getElem_toArray, List.getElem_cons_zero, List.getElem_cons_succ, List.setIfInBounds_toArray, List.set_cons_zero, List.set_cons_succ]
            refine wpAnyL_take (i := 10) (v := ?_) (fuel := 5) rfl (by kernel_rfl) (by kernel_rfl) (by kernel_rfl) (by kernel_rfl) (fun _ _ _ h => h) (fun Ls w' => by rw [getD_set_ne true (by omega)]) (fun _ => HSF.out) (.inl ⟨by rfl, ?_⟩) ?_
            rotate_left 1
            · rintro w' ⟨Ls, hcl, h0, hS⟩
              clear hS hcl h0
              go_simp <;> with_reducible rfl
            try simp only [Act.put, List.getElem_toArray, List.getElem_cons_zero, List.getElem_cons_succ, List.setIfInBounds_toArray, List.set_cons_zero, List.set_cons_succ]
            refine wpAnyL_take (i := 11) (v := ?_) (fuel := 4) rfl (by kernel_rfl) (by kernel_rfl) (by kernel_rfl) (by kernel_rfl) (fun _ _ _ h => h) (fun Ls w' => by rw [getD_set_ne true (by omega)]) (fun _ => HSF.out) (.inl ⟨by rfl, ?_⟩) ?_
            rotate_left 1
            · rintro w' ⟨Ls, hcl, h0, hS⟩
              clear hS hcl h0
              go_simp <;> with_reducible rfl
            try simp only [Act.put, List.getElem_toArray, List.getElem_cons_zero, List.getElem_cons_succ, List.setIfInBounds_toArray, List.set_cons_zero, List.set_cons_succ]
            refine wpAnyL_take (i := 12) (v := ?_) (fuel := 3) rfl (by kernel_rfl) (by kernel_rfl) (by kernel_rfl) (by kernel_rfl) (fun _ _ _ h => h) (fun Ls w' => by rw [getD_set_ne true (by omega)]) (fun _ => HSF.out) (.inl ⟨by rfl, ?_⟩) ?_
            rotate_left 1
            · rintro w' ⟨Ls, hcl, h0, hS⟩
              clear hS hcl h0
              go_simp <;> with_reducible rfl
            try simp only [Act.put, List.getElem_toArray, List.getElem_cons_zero, List.getElem_cons_succ, List.setIfInBounds_toArray, List.set_cons_zero, List.set_cons_succ]
            refine wpAnyL_take (i := 13) (v := ?_) (fuel := 2) rfl (by kernel_rfl) (by kernel_rfl) (by kernel_rfl) (by kernel_rfl) (fun _ _ _ h => h) (fun Ls w' => by rw [getD_set_ne true (by omega)]) (fun _ => HSF.out) (.inl ⟨by rfl, ?_⟩) ?_
            rotate_left 1
            · rintro w' ⟨Ls, hcl, h0, hS⟩
              clear hS hcl h0
              go_simp <;> with_reducible rfl
            try simp only [Act.put, List.getElem_toArray, List.getElem_cons_zero, List.getElem_cons_succ, List.setIfInBounds_toArray, List.set_cons_zero, List.set_cons_succ]
            refine wpAnyL_take (i := 14) (v := ?_) (fuel := 1) rfl (by kernel_rfl) (by kernel_rfl) (by kernel_rfl) (by kernel_rfl) (fun _ _ _ h => h) (fun Ls w' => by rw [getD_set_ne true (by omega)]) (fun _ => HSF.out) (.inl ⟨by rfl, ?_⟩) ?_
            rotate_left 1
            · rintro w' ⟨Ls, hcl, h0, hS⟩
              clear hS hcl h0
              go_simp <;> with_reducible rfl
            try simp only [Act.put, List.getElem_toArray, List.getElem_cons_zero, List.getElem_cons_succ, List.setIfInBounds_toArray, List.set_cons_zero, List.set_cons_succ]
            have y1 := Lanes.cell HSF.out.1 BB1.out
            have y2 := Lanes.frozen HSF.out.1 q8
            have y3 := HSF.out.1.lt
            refine wpAnyL_one (i := 15) (fuel := 0) (by kernel_rfl) rfl (fun K hK => ?_)
            go_simp
            refine hK.out _ _ (fun h => (by cases h)) (fun _ => ?_)
            clear hK K
            try simp only [Act.put, List.getElem_toArray, List.getElem_cons_zero, List.getElem_cons_succ, List.setIfInBounds_toArray, List.set_cons_zero, List.set_cons_succ]
            refine wpAnyL_done (by kernel_rfl) ?_ 0
            have HDN := Lib.hid (show absN P o A (t + 1) = upd D q8 (D q8 ^^^ (X <<< UInt64.ofNat sh)) from by rw [← HQ8.out, ← HSH.out, ← HR8.out, ← HXX.out, ← HX.out, ← HOT.out, ← HDE.out]; rfl)
            clear y1 y2 y3 hwq e1 e2 e3 e4 e5 c1 c2 c3 c4 c5
            go_wp2
            go_roundw
            case rel =>
              refine ⟨t + 1, by omega, by rw [Int.natCast_add]; rfl, Lib.hid ?_, Lib.hid ?_, Lib.hid ?_⟩
              · rw [HDN.out]
                exact HSF.out.1.set BB1.out _
              · exact HSF.out.2.of_block (Below.heap_setCell _ _ _ _ (by have := HGA.out; show g ≠ ab; omega))
              · exact HB'.out.setCell (p := ⟨ab, q8, none⟩) HWA.out _
            case measure => simp [RowKit.intOf]; omega
          · have ht5 : t = 136 := by omega
            have g4 : ¬ ((t : Int) < 136) := by omega
            rw [ht5] at HA
            clear ht5 ht ht2 g3
            have hK2 := HK.out.but (But64.of_below (h := ab) HB.out) HNT.out
            have H := Lib.hid (permute_any ab _ wr HA.out hK2 HNT.out)
            clear hK2
            go_wp2_with fail
            refine H.out.mono ?_
            rintro e w5 ⟨⟨v5, rfl⟩, hl5, hbt5⟩
            have HA5 := Lib.hid (show Lanes 25 w5 ab (blkP P (k + 1)) from by
              show Lanes 25 w5 ab (permP (absN P (136 * k) (blkP P k) 136) 24)
              rw [HAE.out, ← HO.out]
              exact hl5)
            have HP5 := Lib.hid (show At8 w5 g (fun j => P.getD j 0) L from HP.out.of_block (hbt5.block g (by have := HA.out.lt; have := HGA.out; omega) (by have := HGA.out; omega)))
            have HB5 := Lib.hid (show Below w.heap.size w w5 from ⟨hbt5.os.trans HB.out.os, hbt5.tape.trans HB.out.tape, hbt5.output.trans HB.out.output, Nat.le_trans HB.out.size hbt5.size, fun j hj => (hbt5.block j (Nat.lt_of_lt_of_le hj HB.out.size) (by have := HWA.out; omega)).trans (HB.out.block j hj)⟩)
            clear hl5 hbt5 H HA HP HB
            have hnm : n % 136 = 0 := by have := HLE.out.1; have := HO.out; have := HON.out; omega
            have hn1 := HN1.out
            have hn2 := HN2.out
            by_cases hl : n = 136
            · have e7 : n - 136 = 0 := by omega
              have HNL := Lib.hid hl
              clear hnm hl
              go_wp2_with fail
              all_goals (
                obtain ⟨ob, hob⟩ : ∃ ob, w5.heap.size = ob := ⟨_, rfl⟩
                obtain ⟨w6, hw6⟩ : ∃ W, w5.alloc (.cells #[.int .u8 0, .int .u8 0, .int .u8 0, .int .u8 0, .int .u8 0, .int .u8 0, .int .u8 0, .int .u8 0, .int .u8 0, .int .u8 0, .int .u8 0, .int .u8 0, .int .u8 0, .int .u8 0, .int .u8 0, .int .u8 0, .int .u8 0, .int .u8 0, .int .u8 0, .int .u8 0, .int .u8 0, .int .u8 0, .int .u8 0, .int .u8 0, .int .u8 0, .int .u8 0, .int .u8 0, .int .u8 0, .int .u8 0, .int .u8 0, .int .u8 0, .int .u8 0] 88) = W := ⟨_, rfl⟩
                have l6 : Lanes 25 w6 ab (blkP P (k + 1)) := by rw [← hw6]; exact HA5.out.alloc _
                have b6 : Below w.heap.size w w6 := by rw [← hw6]; exact HB5.out.alloc HB5.out.size _
                have a6 : At8 w6 ob (fun _ => 0) 32 := by rw [← hw6, ← hob]; exact at8_zero 32 w5 _
                have hobab : ob ≠ ab := by have := HA5.out.lt; omega
                have hwob : w.heap.size ≤ ob := by rw [← hob]; exact HB5.out.size
                rw [hob, hw6]
                obtain ⟨Rr, hRr⟩ : ∃ R, blkP P (k + 1) = R := ⟨_, rfl⟩
                rw [hRr] at l6
                have HRR := Lib.hid hRr
                have L6 := Lib.hid l6
                have B6 := Lib.hid b6
                have A6 := Lib.hid (show At8 w6 ob (fun j => if j < 0 then outB Rr j else 0) 32 from a6)
                have HOA := Lib.hid hobab
                have HWO := Lib.hid hwob
                clear hob hw6 l6 b6 a6 hobab hwob hRr HA5 HB5 HP5
                go_loopw [52] (fun i wr => ∃ t : Nat, t ≤ 32 ∧ i = .int .i64 t ∧ Hid (Lanes 25 wr ab Rr) ∧ Hid (At8 wr ob (fun j => if j < t then outB Rr j else 0) 32) ∧ Hid (Below w.heap.size w wr)) (fun i _ => 32 - (RowKit.intOf i).toNat)
                case atStart => exact ⟨0, by omega, rfl, L6, A6, B6⟩
                case round =>
                  clear L6 A6 B6
                  obtain ⟨t, ht, rfl, HA, HP, HB⟩ := hrel
                  have g3 : (0 : Int) ≤ t := by omega
                  by_cases ht2 : t < 32
                  · have g4 : (t : Int) < 32 := by omega
                    obtain ⟨q8, hq8⟩ : ∃ q, t / 8 = q := ⟨_, rfl⟩
                    obtain ⟨r8, hr8⟩ : ∃ q, t % 8 = q := ⟨_, rfl⟩
                    have e1 : (t : Int).tdiv 8 = (q8 : Int) := by rw [← hq8, Int.tdiv_eq_ediv_of_nonneg (by omega)]; omega
                    have e2 : (t : Int).tmod 8 = (r8 : Int) := by rw [← hr8, Int.tmod_eq_emod_of_nonneg (by omega)]; omega
                    have b1 : q8 < 25 := by omega
                    have hwq : IntKind.i64.wrap (q8 : Int) = (q8 : Int) := by rw [IntKind.wrap_i64]; omega
                    have c1 : (0 : Int) ≤ q8 := by omega
                    have c2 : (q8 : Int) < 25 := by omega
                    obtain ⟨sh, hsh⟩ : ∃ q, 8 * r8 = q := ⟨_, rfl⟩
                    have e3 : IntKind.i64.wrap (8 * (r8 : Int)) = (sh : Int) := by rw [IntKind.wrap_i64]; omega
                    have c3 : (0 : Int) ≤ sh := by omega
                    obtain ⟨X, hX⟩ : ∃ X, Rr q8 = X := ⟨_, rfl⟩
                    have z0 := Lanes.cell HA.out b1
                    rw [hX] at z0
                    obtain ⟨Y, hY⟩ : ∃ Y, X >>> UInt64.ofNat sh = Y := ⟨_, rfl⟩
                    have e5 : lv X / 2 ^ min sh 64 = lv Y := by
                      rw [Nat.min_eq_left (show sh ≤ 64 by omega)]
                      have h := lv_shr X sh (by omega)
                      rw [Int.natCast_pow, hY] at h
                      exact h
                    obtain ⟨z, hz⟩ : ∃ z, Y.toUInt8 = z := ⟨_, rfl⟩
                    have e6 : IntKind.u8.wrap (lv Y) = (z.toNat : Int) := by
                      rw [← hz, IntKind.wrap_u8]
                      unfold lv
                      rw [UInt64.toNat_toUInt8]
                      omega
                    have y1 := (HP.out t ht2).1
                    have y2 := (HP.out t ht2).2
                    have y3 := World.block_lt_of_cell? _ _ y1
                    have HZV := Lib.hid (show outB Rr t = z from by rw [← hz, ← hY, ← hX, ← hsh, ← hr8, ← hq8]; rfl)
                    have HT2 := Lib.hid ht2
                    clear hq8 hr8 hsh hX hY hz
                    go_wp2
                    go_roundw
                    case rel =>
                      refine ⟨t + 1, by omega, by rw [Int.natCast_add]; rfl, Lib.hid ?_, Lib.hid ?_, Lib.hid ?_⟩
                      · exact HA.out.setOther (Ne.symm HOA.out) _
                      · have h := At8.set HP.out HT2.out z
                        refine fun j hj => ⟨?_, (h j hj).2⟩
                        have h' := (h j hj).1
                        rw [h']
                        show some (Value.int .u8 (((if j = t then z else if j < t then outB Rr j else 0).toNat : Nat) : Int)) = some (Value.int .u8 (((if j < t + 1 then outB Rr j else 0).toNat : Nat) : Int))
                        by_cases hjt : j = t
                        · subst hjt
                          rw [if_pos rfl, if_pos (by omega), HZV.out]
                        · rw [if_neg hjt]
                          by_cases hj2 : j < t
                          · rw [if_pos hj2, if_pos (by omega)]
                          · rw [if_neg hj2, if_neg (by omega)]
                      · exact HB.out.setCell (p := ⟨ob, t, none⟩) HWO.out _
                    case measure => simp [RowKit.intOf]; omega
                  · have ht5 : t = 32 := by omega
                    have g4 : ¬ ((t : Int) < 32) := by omega
                    have hPl : P.length = L := by rw [← HPE.out]; exact HPL.out
                    have hkk : P.length / 136 = k + 1 := by have := HO.out; have := HON.out; have := HNL.out; omega
                    have hfin : kout Rr 32 = keccakL s := by rw [← keccakL_P, ← HRR.out, HPE.out, hkk]
                    have hkl := kout_length Rr 32
                    have hcell : ∀ j u, (Lib.byteCells (kout Rr 32))[j]? = some u → wr.cell? ⟨ob, j, none⟩ = some u := fun j u hu => by
                      have hj : j < 32 := by
                        have := (List.getElem?_eq_some_iff.1 hu).1
                        rw [Lib.byteCells_length, hkl] at this
                        exact this
                      have h := (HP.out j hj).1
                      rw [h, ← hu]
                      show some (Value.int .u8 (((if j < t then outB Rr j else 0).toNat : Nat) : Int)) = _
                      rw [if_pos (by omega)]
                      simp only [Lib.byteCells, kout, List.map_map, List.getElem?_map]
                      rw [List.getElem?_range hj]
                      rfl
                    obtain ⟨l, hlq⟩ : ∃ l, kout Rr 32 = l := ⟨_, rfl⟩
                    rw [hlq] at hkl hcell hfin
                    have hobl : ob < wr.heap.size := World.block_lt_of_cell? _ _ (HP.out 0 (by decide)).1
                    have ho : OwnC w.heap.size wr (.slice (some ⟨ob, 0, none⟩) 32 32) l := .inr ⟨ob, 32, by rw [hkl], HWO.out, hobl, by omega, hcell, fun j hj => ⟨by rw [(HP.out j hj).1]; rfl, (HP.out j hj).2⟩⟩
                    have hstr := ho.str (P := Tryd.prog) (src := 24) (dst := 9) Tryd.underlying24 Tryd.underlying5 Tryd.underlying9
                    have HFIN := Lib.hid hfin
                    clear ho hcell hkl hlq hfin hPl hkk hobl ht5 ht HP HA
                    go_wp2
                    go_ret
                    exact ⟨by rw [HFIN.out]; rfl, HB.out⟩)
            · have hcc : cc ≠ 136 := by omega
              have e7 : ¬ n - 136 = 0 := by omega
              have HN3 := Lib.hid (show 136 ≤ n - 136 ∧ n - 136 ≤ cc - 136 ∧ o + 136 + (n - 136) = L ∧ o + 136 = 136 * (k + 1) ∧ n - 136 < n from ⟨by omega, by omega, by have := HON.out; omega, by have := HO.out; omega, by omega⟩)
              clear hnm hl
              go_wp2
              go_roundw
              case rel => exact ⟨k + 1, o + 136, n - 136, cc - 136, HN3.out.2.2.2.1, HN3.out.2.2.1, HN3.out.1, HN3.out.2.1, rfl, HA5, HP5, HB5⟩
              case measure => simp only [lenOf]; exact HN3.out.2.2.2.2
    · have g3 : (0 : Int) < (q : Int) := by omega
      have hlt : z < zm := by have := HZM.out; omega
      have HLT := Lib.hid hlt
      clear hL hLz hlt hz hzm2 hq hq0
      go_wp2_with (at_builtin; refine wpList_appendC rfl _ _ 24 rfl w.heap.size 5 Tryd.underlying24 infoByteK _ (s ++ 1 :: List.replicate z 0) rfl (HO.out.alloc _) ⟨wr.heap.size, 0, none⟩ 1 1 [0] rfl rfl ?c0 ?c1 ?c2 ?_)
      case c0 => exact cells_new_at rfl [.int .u8 0] _
      case c1 => have := HLZ.out; have := HL.out; have := HLT.out; have := HZM.out; omega
      case c2 => have := HB.out.size; simp; omega
      intro v' w' ho' hg'
      have hO' : OwnC w.heap.size w' v' (s ++ 1 :: List.replicate (z + 1) 0) := by
        rw [List.replicate_succ']
        exact ho'
      have hlz' : (s ++ 1 :: List.replicate (z + 1) 0).length = L + 1 := by have := HLZ.out; rw [List.length_append, List.length_cons, List.length_replicate]; omega
      have HOW := HO.out.lt
      have hB' : Below w.heap.size w w' := (HB.out.alloc HB.out.size _).grown hg' (by have := HB.out.size; simp; omega) (fun r e => (HOW r e).1)
      have HOO := Lib.hid hO'
      have HBB := Lib.hid hB'
      have HLL := Lib.hid hlz'
      clear ho' hg' hO' hB' hlz' HOW
      go_wp2
      go_roundw
      case rel => exact ⟨z + 1, HLT.out, HOO, HBB⟩
      case measure =>
        obtain ⟨p', c', rfl⟩ := HOO.out.form
        rw [HLL.out]
        simp only [lenOf]
        have := HLZ.out; have := HLT.out
        omega
end Go.Proofs.YthicdhnjincflaaDoor
