/- What the walks take: Ew19. -/
import Derived.Test.YtlelgbmbmajfmaaGreatDoorS3
import Derived.Test.YtlelgbmbmajfmaaGreatDoorS10
import Derived.Test.YtlelgbmbmajfmaaGreatDoorS20
import Derived.Test.YtlelgbmbmajfmaaGreatDoorS21
import Derived.Test.YtlelgbmbmajfmaaGreatDoorS23
import Derived.Scope
import Derived.Deep.RegionHeld3
import Derived.Deep.MidRow
import Derived.Lib.Hide
import Derived.RangeFuncNested
import Derived.Shelf.Abstract
namespace Go.Proofs.YtlelgbmbmajfmaaGreatDoor
open Go.RowKit Go.Shelf Go.Lib
attribute [local go_sem] Oper.semAt_some lv_and lv_or lv_xor lv_not lv_notM lv_notI
theorem bv8_xor (a b : UInt8) : bits .xor .u8 (a.toNat : Int) (b.toNat : Int) = ((a ^^^ b).toNat : Int) := by
  have h1 : ∀ x : UInt8, BitVec.ofInt 8 (x.toNat : Int) = x.toBitVec := fun x => by
    rw [BitVec.ofInt_natCast]
    exact (BitVec.ofNat_toNat 8 x.toBitVec).trans (BitVec.setWidth_eq _)
  show IntKind.u8.wrap ((BitVec.ofInt 8 (a.toNat : Int) ^^^ BitVec.ofInt 8 (b.toNat : Int)).toNat : Int) = _
  rw [h1, h1]
  have h2 : (a.toBitVec ^^^ b.toBitVec).toNat < 256 := (a.toBitVec ^^^ b.toBitVec).isLt
  rw [IntKind.wrap_u8]
  show _ = ((a.toBitVec ^^^ b.toBitVec).toNat : Int)
  omega
def outB (a : Nat → UInt64) (i : Nat) : UInt8 := (a (i / 8) >>> UInt64.ofNat (8 * (i % 8))).toUInt8
theorem at8_zero (N : Nat) (w : World) (t : TypeId) : At8 (w.alloc (.cells (List.replicate N (Value.int .u8 0)).toArray t)) w.heap.size (fun _ => 0) N := fun j hj => by
  have h := World.alloc_heap_new w (.cells (List.replicate N (Value.int .u8 0)).toArray t)
  refine ⟨?_, ?_⟩
  · rw [World.cell?, h]
    simp [hj]
  · rw [World.frozen?, h]
    simp
def lenOf : Value → Nat
  | .slice _ n _ => n
  | _ => 0
theorem kzeros_rep (s : List UInt8) (z : Nat) (h : (s.length + 1 + z) % 136 = 0) (hz : z < 136) : s ++ 1 :: List.replicate z 0 = kzeros s := by
  unfold kzeros
  congr 3
  omega
set_option maxRecDepth 100000 in
set_option maxHeartbeats 6400000 in
theorem kecSum_any (v : Value) (ps : List ByteArray) (w : World) (hv : Strs w v ps) (hN : ps.length ≤ 1099511627776) (hlen : (lettersOf ps).length ≤ 1099511627776) (hK : KecT w) :
    Calls Tryz.prog 14 #[v] w fun e w' => e = .returned (.string ⟨(keccakL (lettersOf ps)).toArray⟩) ∧ Below w.heap.size w w' := by
  have hJ := Lib.hid (join_any v ps w hv hN hlen)
  obtain ⟨p, c, rfl, -⟩ := hv
  obtain ⟨s, hs⟩ : ∃ s, lettersOf ps = s := ⟨_, rfl⟩
  rw [hs] at hJ hlen ⊢
  have HK := Lib.hid hK
  clear hK hs
  go_enter Tryz.func14, Tryz.ntmps14
  go_wp2_with fail
  refine wp_scope_straight ?_
  go_wp2_with fail
  refine hJ.out.mono ?_
  rintro e w1 ⟨rfl, hb1⟩
  have HB1 := Lib.hid hb1
  clear hb1
  have hL0 : s.length + 1 ≤ 1099511627777 := by omega
  go_wp2_with ((with_reducible refine conv_gate 9 55 ?_); refine wpList_bytesOf rfl 9 55 _ rfl 5 Tryz.underlying9 Tryz.underlying55 Tryz.underlying5 ⟨(s ++ [1]).toArray⟩ (by first | rfl | (rw [← app_one]; rfl)) ?_; intro v0 w2 ho0 hgr; have HO0 := Lib.hid ho0; have HGR := Lib.hid hgr; clear ho0 hgr)
  have hb2 : Below w.heap.size w w2 := (HB1.out.grown HGR.out HB1.out.size (fun r e => by cases e))
  have ho2 : OwnC w.heap.size w2 v0 (s ++ 1 :: List.replicate 0 0) := by
    have := HO0.out.base HB1.out.size
    exact this
  obtain ⟨zm, hzm⟩ : ∃ z, (136 - (s.length + 1) % 136) % 136 = z := ⟨_, rfl⟩
  have HZM := Lib.hid hzm
  have HO2 := Lib.hid ho2
  have HB2 := Lib.hid hb2
  clear ho2 hb2 hzm HO0 HGR
  go_loopw [3] (fun b wr => ∃ z : Nat, z ≤ zm ∧ Hid (OwnC w.heap.size wr b (s ++ 1 :: List.replicate z 0)) ∧ Hid (Below w.heap.size w wr)) (fun b _ => s.length + 1 + zm - lenOf b)
  case atStart => exact ⟨0, Nat.zero_le _, HO2, HB2⟩
  case round =>
    obtain ⟨z, hz, HO, HB⟩ := hrel
    obtain ⟨pb, cb, rfl⟩ := HO.out.form
    have hLz : (s ++ 1 :: List.replicate z 0).length = s.length + 1 + z := by rw [List.length_append, List.length_cons, List.length_replicate]; omega
    have hzm2 : zm < 136 := by have := HZM.out; omega
    obtain ⟨L, hL⟩ : ∃ L, (s ++ 1 :: List.replicate z 0).length = L := ⟨_, rfl⟩
    rw [hL] at hLz HO ⊢
    have HL := Lib.hid hL
    have HLZ := Lib.hid hLz
    obtain ⟨q, hq⟩ : ∃ q, L % 136 = q := ⟨_, rfl⟩
    have e1 : (L : Int).tmod 136 = (q : Int) := by rw [← hq, Int.tmod_eq_emod_of_nonneg (by omega)]; omega
    by_cases hq0 : q = 0
    · have g3 : ¬ ((0 : Int) < (q : Int)) := by omega
      have hzz : z = zm := by have := HZM.out; omega
      have hkz : s ++ 1 :: List.replicate z 0 = kzeros s := by
        refine kzeros_rep s z (by omega) (by omega)
      have hrow : ∃ g, pb = some ⟨g, 0, none⟩ ∧ w.heap.size ≤ g ∧ g < wr.heap.size ∧ L ≤ cb ∧ At8 wr g (fun j => (kzeros s).getD j 0) L := by
        have h := HO.out
        rw [hkz] at h
        rcases h with ⟨h1, h2⟩ | ⟨g, cap, h1, h2, h3, h4, h5, h6⟩
        · cases h1; omega
        · cases h1
          refine ⟨g, rfl, h2, h3, by omega, fun j hj => ⟨?_, (h6 j (by omega)).2⟩⟩
          refine h5 j _ ?_
          have hj2 : j < (kzeros s).length := by rw [← hkz]; omega
          simp only [Lib.byteCells, List.getElem?_map, List.getD_eq_getElem?_getD, List.getElem?_eq_getElem hj2]
          rfl
      obtain ⟨g, rfl, hg0, hg1, hcap, h8⟩ := hrow
      have hKL : (kzeros s).length = L := by rw [← hkz]; exact hL
      have hL1 : 1 ≤ L := by omega
      have hL2 : L ≤ 1099511627776 + 137 := by omega
      have HKL := Lib.hid hKL
      obtain ⟨K, hKz⟩ : ∃ K, kzeros s = K := ⟨_, rfl⟩
      rw [hKz] at h8 hKL
      have HKZ := Lib.hid hKz
      have HQ0 := Lib.hid (show L % 136 = 0 from by omega)
      have hwm : IntKind.i64.wrap ((L : Int) - 1) = ((L - 1 : Nat) : Int) := by rw [IntKind.wrap_i64]; omega
      obtain ⟨m, hm⟩ : ∃ m, L - 1 = m := ⟨_, rfl⟩
      rw [hm] at hwm
      have hmL : m < L := by omega
      have i0 : (0 : Int) ≤ m := by omega
      have i1 : (m : Int) < L := by omega
      have i2 : (1 : Int) ≤ L := by omega
      have y1 := (h8 m hmL).1
      have y2 := (h8 m hmL).2
      obtain ⟨x, hx⟩ : ∃ x, K.getD m 0 = x := ⟨_, rfl⟩
      dsimp only at y1
      rw [hx] at y1
      obtain ⟨y, hy⟩ : ∃ y, x ^^^ 128 = y := ⟨_, rfl⟩
      have hxo : bits .xor .u8 (x.toNat : Int) 128 = (y.toNat : Int) := by
        rw [← hy]
        exact bv8_xor x 128
      have hP8 : At8 (wr.setCell ⟨g, m, none⟩ (.int .u8 (y.toNat : Int))) g (fun j => (kpad s).getD j 0) L := by
        have h := At8.set h8 hmL y
        refine fun j hj => ⟨?_, (h j hj).2⟩
        have h' := (h j hj).1
        rw [h']
        show some (Value.int .u8 (((if j = m then y else K.getD j 0).toNat : Nat) : Int)) = _
        have hkp : (kpad s).getD j 0 = if j = m then y else K.getD j 0 := by
          unfold kpad klast
          rw [hKz, hKL, hm, hx, List.getD_eq_getElem?_getD, List.getElem?_set]
          by_cases hjm : m = j
          · subst hjm
            rw [if_pos rfl, if_pos (by omega), if_pos rfl, ← hy]
            rfl
          · rw [if_neg hjm, if_neg (fun e => hjm e.symm), List.getD_eq_getElem?_getD]
        show _ = some (Value.int .u8 ((((kpad s).getD j 0).toNat : Nat) : Int))
        rw [hkp]
      have HP8 := Lib.hid hP8
      have HX := Lib.hid hx
      have HM := Lib.hid hm
      have HML := Lib.hid hmL
      have H8 := Lib.hid h8
      have HG0 := Lib.hid hg0
      have HCAP := Lib.hid hcap
      have HLE := Lib.hid (show L % 136 = 0 ∧ 136 ≤ L from ⟨by omega, by omega⟩)
      have HPL := Lib.hid (show (kpad s).length = L from by rw [kpad_length, HKL.out])
      have HL2 := Lib.hid hL2
      clear hL hLz hz hzm2 hq hq0 hzz hkz HO hKL hKz h8 hx hm hmL hL0 hg0 hy hP8
      go_wp2_with fail
      obtain ⟨ab, hab⟩ : ∃ ab, wr.heap.size = ab := ⟨_, rfl⟩
      obtain ⟨wm, hwm2⟩ : ∃ W, wr.setCell ⟨g, m, none⟩ (.int .u8 (y.toNat : Int)) = W := ⟨_, rfl⟩
      have hsz : wm.heap.size = ab := by rw [← hwm2, World.size_setCell, hab]
      have hb2 : Below w.heap.size w wm := by rw [← hwm2]; exact HB.out.setCell (p := ⟨g, m, none⟩) HG0.out _
      have hp2 : At8 wm g (fun j => (kpad s).getD j 0) L := by rw [← hwm2]; exact HP8.out
      have la := lanes_zero 25 wm 74
      rw [hsz] at la
      obtain ⟨w3, hw3⟩ : ∃ W, wm.alloc (.cells #[.int .u64 0, .int .u64 0, .int .u64 0, .int .u64 0, .int .u64 0, .int .u64 0, .int .u64 0, .int .u64 0, .int .u64 0, .int .u64 0, .int .u64 0, .int .u64 0, .int .u64 0, .int .u64 0, .int .u64 0, .int .u64 0, .int .u64 0, .int .u64 0, .int .u64 0, .int .u64 0, .int .u64 0, .int .u64 0, .int .u64 0, .int .u64 0, .int .u64 0] 74) = W := ⟨_, rfl⟩
      have la3 : Lanes 25 w3 ab zeroL := by rw [← hw3]; exact la
      have hb3 : Below w.heap.size w w3 := by rw [← hw3]; exact hb2.alloc hb2.size _
      have hgab : g < ab := by omega
      have hp3 : At8 w3 g (fun j => (kpad s).getD j 0) L := by rw [← hw3]; exact hp2.of_block (Below.heap_alloc _ _ _ (by omega))
      have hwab : w.heap.size ≤ ab := by rw [← hab]; exact HB.out.size
      have LA := Lib.hid la3
      have LB := Lib.hid hb3
      have LP := Lib.hid hp3
      rw [hab, hwm2, hw3]
      obtain ⟨P, hP⟩ : ∃ P, kpad s = P := ⟨_, rfl⟩
      rw [hP] at LP
      have HPE := Lib.hid hP
      clear hw3 hwm2 hab hsz hb2 hp2 la la3 hb3 hp3 HP8 hP y1 y2 hxo hwm HB
      have HGA := Lib.hid hgab
      have HWA := Lib.hid hwab
      have k1 := World.block_lt_of_cell? _ _ (HK.out.places 0 (by decide))
      have k2 := World.block_lt_of_cell? _ _ (HK.out.turns 0 (by decide))
      have k3 := World.block_lt_of_cell? _ _ (HK.out.consts 0 (by decide))
      dsimp only at k1 k2 k3
      have HNT := Lib.hid (show NotTab ab from ⟨by omega, by omega, by omega⟩)
      clear k1 k2 k3
      refine wp_label ?_
      go_wp2_with fail
      go_loopw [3] (fun b wr => ∃ k o n cc : Nat, o = 136 * k ∧ o + n = L ∧ 136 ≤ n ∧ n ≤ cc ∧ b = .slice (some ⟨g, o, none⟩) n cc ∧ Hid (Lanes 25 wr ab (blkP P k)) ∧ Hid (At8 wr g (fun j => P.getD j 0) L) ∧ Hid (Below w.heap.size w wr)) (fun b _ => lenOf b)
      case atStart => exact ⟨0, 0, L, cb, rfl, by omega, HLE.out.2, by have := HCAP.out; omega, rfl, LA, LP, LB⟩
      case round =>
        clear LA LP LB
        obtain ⟨k, o, n, cc, ho, hon, hn136, hncc, rfl, HA, HP, HB⟩ := hrel
        go_wp2_with fail
        obtain ⟨A, hA⟩ : ∃ A, blkP P k = A := ⟨_, rfl⟩
        rw [hA] at HA
        have HAE := Lib.hid hA
        have HO := Lib.hid ho
        have HON := Lib.hid hon
        have HN1 := Lib.hid hn136
        have HN2 := Lib.hid hncc
        clear hA ho hon hn136 hncc
        go_loopw [27] (fun i wr => ∃ t : Nat, t ≤ 136 ∧ i = .int .i64 t ∧ Hid (Lanes 25 wr ab (absN P o A t)) ∧ Hid (At8 wr g (fun j => P.getD j 0) L) ∧ Hid (Below w.heap.size w wr)) (fun i _ => 136 - (RowKit.intOf i).toNat)
        case atStart => exact ⟨0, by omega, rfl, HA, HP, HB⟩
        case round =>
          clear HA HP HB
          obtain ⟨t, ht, rfl, HA, HP, HB⟩ := hrel
          have g3 : (0 : Int) ≤ t := by omega
          by_cases ht2 : t < 136
          · have g4 : (t : Int) < 136 := by omega
            obtain ⟨D, hD⟩ : ∃ D, absN P o A t = D := ⟨_, rfl⟩
            rw [hD] at HA
            have HDE := Lib.hid hD
            obtain ⟨q8, hq8⟩ : ∃ q, t / 8 = q := ⟨_, rfl⟩
            obtain ⟨r8, hr8⟩ : ∃ q, t % 8 = q := ⟨_, rfl⟩
            have e1 : (t : Int).tdiv 8 = (q8 : Int) := by rw [← hq8, Int.tdiv_eq_ediv_of_nonneg (by omega)]; omega
            have e2 : (t : Int).tmod 8 = (r8 : Int) := by rw [← hr8, Int.tmod_eq_emod_of_nonneg (by omega)]; omega
            have b1 : q8 < 25 := by omega
            have hwq : IntKind.i64.wrap (q8 : Int) = (q8 : Int) := by rw [IntKind.wrap_i64]; omega
            have b2 : r8 < 8 := by omega
            have c1 : (0 : Int) ≤ q8 := by omega
            have c2 : (q8 : Int) < 25 := by omega
            obtain ⟨sh, hsh⟩ : ∃ q, 8 * r8 = q := ⟨_, rfl⟩
            have e3 : IntKind.i64.wrap (8 * (r8 : Int)) = (sh : Int) := by rw [IntKind.wrap_i64]; omega
            have c3 : (0 : Int) ≤ sh := by omega
            have c4 : (t : Int) < n := by have := HN1.out; omega
            have c5 : t < n := by have := HN1.out; omega
            obtain ⟨ot, hot⟩ : ∃ q, o + t = q := ⟨_, rfl⟩
            have b3 : ot < L := by have := HON.out; omega
            obtain ⟨x, hx⟩ : ∃ x, P.getD ot 0 = x := ⟨_, rfl⟩
            obtain ⟨X, hX⟩ : ∃ X, x.toUInt64 = X := ⟨_, rfl⟩
            have e4 : IntKind.u64.wrap (x.toNat : Int) = lv X := by
              rw [← hX]
              have h1 := wrap64_nat x.toNat (by have := x.toNat_lt; omega)
              rw [h1]
              unfold lv
              simp
            have e5 : IntKind.u64.wrap (lv X * 2 ^ min sh 64) = lv (X <<< UInt64.ofNat sh) := by
              rw [Nat.min_eq_left (show sh ≤ 64 by omega)]
              have h := lv_shl X sh (by omega)
              rw [Int.natCast_pow] at h
              rw [IntKind.wrap_u64]
              exact h
            have hA' : Lanes 25 wr.drew ab D := HA.out.kept rfl
            have hP' : At8 wr.drew g (fun j => P.getD j 0) L := HP.out.of_block rfl
            have HSF := Lib.hid (And.intro hA' hP')
            have HB' := Lib.hid (show Below w.heap.size w wr.drew from HB.out.drew)
            have HX := Lib.hid hx
            have HXX := Lib.hid hX
            have HOT := Lib.hid hot
            have HSH := Lib.hid hsh
            have HQ8 := Lib.hid hq8
            have HR8 := Lib.hid hr8
            have BB1 := Lib.hid b1
            have BB3 := Lib.hid b3
            clear hx hX hsh hq8 hr8 b1 b2 b3 hA' hP' HA HP HB hD
            go_wp2_with fail
            refine wp_region_L (fun Ls w' => Ls.getD 15 true = false → Lanes 25 w' ab D ∧ At8 w' g (fun j => P.getD j 0) L) (by kernel_rfl) ?_
            refine wpAnyL_take (i := 0) (v := ?_) (fuel := 15) rfl (by kernel_rfl) (by kernel_rfl) (by kernel_rfl) (by kernel_rfl) (fun _ _ _ h => h) (fun Ls w' => by rw [getD_set_ne true (by omega)]) (fun _ => HSF.out) (.inl ⟨by rfl, ?_⟩) ?_
            rotate_left 1
            · rintro w' ⟨Ls, hcl, h0, hS⟩
              clear hS hcl h0
              go_simp <;> with_reducible rfl
            try simp only [Act.put, zq1, zq2, zq4, zq5, zq6]
            refine wpAnyL_take (i := 1) (v := ?_) (fuel := 14) rfl (by kernel_rfl) (by kernel_rfl) (by kernel_rfl) (by kernel_rfl) (fun _ _ _ h => h) (fun Ls w' => by rw [getD_set_ne true (by omega)]) (fun _ => HSF.out) (.inl ⟨by rfl, ?_⟩) ?_
            rotate_left 1
            · rintro w' ⟨Ls, hcl, h0, hS⟩
              clear hS hcl h0
              go_simp <;> with_reducible rfl
            try simp only [Act.put, zq1, zq2, zq3, zq4, zq5, zq6]
            refine wpAnyL_take (i := 2) (v := ?_) (fuel := 13) rfl (by kernel_rfl) (by kernel_rfl) (by kernel_rfl) (by kernel_rfl) (fun _ _ _ h => h) (fun Ls w' => by rw [getD_set_ne true (by omega)]) (fun _ => HSF.out) (.inl ⟨by rfl, ?_⟩) ?_
            rotate_left 1
            · rintro w' ⟨Ls, hcl, h0, hS⟩
              clear hS hcl h0
              go_simp <;> with_reducible rfl
            try simp only [Act.put, zq1, zq2, zq3, zq4, zq5, zq6]
            refine wpAnyL_take (i := 3) (v := ?_) (fuel := 12) rfl (by kernel_rfl) (by kernel_rfl) (by kernel_rfl) (by kernel_rfl) (fun _ _ _ h => h) (fun Ls w' => by rw [getD_set_ne true (by omega)]) (fun _ => HSF.out) (.inl ⟨by rfl, ?_⟩) ?_
            rotate_left 1
            · rintro w' ⟨Ls, hcl, h0, hS⟩
              have hSw := hS (closedB_before hcl (i := 3) (by kernel_rfl) h0)
              have z0 := Lanes.cell hSw.1 BB1.out
              have z1 := (hSw.2 ot BB3.out).1
              dsimp only at z1
              rw [HX.out] at z1
              clear hS hcl h0
              go_simp <;> with_reducible rfl
            try simp only [Act.put, zq1, zq2, zq3, zq4, zq5, zq6]
            refine wpAnyL_take (i := 4) (v := ?_) (fuel := 11) rfl (by kernel_rfl) (by kernel_rfl) (by kernel_rfl) (by kernel_rfl) (fun _ _ _ h => h) (fun Ls w' => by rw [getD_set_ne true (by omega)]) (fun _ => HSF.out) (.inl ⟨by rfl, ?_⟩) ?_
            rotate_left 1
            · rintro w' ⟨Ls, hcl, h0, hS⟩
              clear hS hcl h0
              go_simp <;> with_reducible rfl
            try simp only [Act.put, zq1, zq2, zq3, zq4, zq5, zq6]
            refine wpAnyL_take (i := 5) (v := ?_) (fuel := 10) rfl (by kernel_rfl) (by kernel_rfl) (by kernel_rfl) (by kernel_rfl) (fun _ _ _ h => h) (fun Ls w' => by rw [getD_set_ne true (by omega)]) (fun _ => HSF.out) (.inl ⟨by rfl, ?_⟩) ?_
            rotate_left 1
            · rintro w' ⟨Ls, hcl, h0, hS⟩
              clear hS hcl h0
              go_simp <;> with_reducible rfl
            try simp only [Act.put, zq1, zq2, zq3, zq4, zq5, zq6]
            refine wpAnyL_take (i := 6) (v := ?_) (fuel := 9) rfl (by kernel_rfl) (by kernel_rfl) (by kernel_rfl) (by kernel_rfl) (fun _ _ _ h => h) (fun Ls w' => by rw [getD_set_ne true (by omega)]) (fun _ => HSF.out) (.inl ⟨by rfl, ?_⟩) ?_
            rotate_left 1
            · rintro w' ⟨Ls, hcl, h0, hS⟩
              clear hS hcl h0
              go_simp <;> with_reducible rfl
            try simp only [Act.put, zq1, zq2, zq3, zq4, zq5, zq6]
            refine wpAnyL_take (i := 7) (v := ?_) (fuel := 8) rfl (by kernel_rfl) (by kernel_rfl) (by kernel_rfl) (by kernel_rfl) (fun _ _ _ h => h) (fun Ls w' => by rw [getD_set_ne true (by omega)]) (fun _ => HSF.out) (.inl ⟨by rfl, ?_⟩) ?_
            rotate_left 1
            · rintro w' ⟨Ls, hcl, h0, hS⟩
              have hSw := hS (closedB_before hcl (i := 7) (by kernel_rfl) h0)
              have z0 := Lanes.cell hSw.1 BB1.out
              have z1 := (hSw.2 ot BB3.out).1
              dsimp only at z1
              rw [HX.out] at z1
              clear hS hcl h0
              go_simp <;> with_reducible rfl
            try simp only [Act.put, zq1, zq2, zq3, zq4, zq5, zq6]
            refine wpAnyL_take (i := 8) (v := ?_) (fuel := 7) rfl (by kernel_rfl) (by kernel_rfl) (by kernel_rfl) (by kernel_rfl) (fun _ _ _ h => h) (fun Ls w' => by rw [getD_set_ne true (by omega)]) (fun _ => HSF.out) (.inl ⟨by rfl, ?_⟩) ?_
            rotate_left 1
            · rintro w' ⟨Ls, hcl, h0, hS⟩
              clear hS hcl h0
              go_simp <;> with_reducible rfl
            try simp only [Act.put, zq1, zq2, zq3, zq4, zq5, zq6]
            refine wpAnyL_take (i := 9) (v := ?_) (fuel := 6) rfl (by kernel_rfl) (by kernel_rfl) (by kernel_rfl) (by kernel_rfl) (fun _ _ _ h => h) (fun Ls w' => by rw [getD_set_ne true (by omega)]) (fun _ => HSF.out) (.inl ⟨by rfl, ?_⟩) ?_
            rotate_left 1
            · rintro w' ⟨Ls, hcl, h0, hS⟩
              clear hS hcl h0
              go_simp <;> with_reducible rfl
            try simp only [Act.put, zq1, zq2, zq3, zq4, zq5, zq6]
            refine wpAnyL_take (i := 10) (v := ?_) (fuel := 5) rfl (by kernel_rfl) (by kernel_rfl) (by kernel_rfl) (by kernel_rfl) (fun _ _ _ h => h) (fun Ls w' => by rw [getD_set_ne true (by omega)]) (fun _ => HSF.out) (.inl ⟨by rfl, ?_⟩) ?_
            rotate_left 1
            · rintro w' ⟨Ls, hcl, h0, hS⟩
              clear hS hcl h0
              go_simp <;> with_reducible rfl
            try simp only [Act.put, zq1, zq2, zq3, zq4, zq5, zq6]
            refine wpAnyL_take (i := 11) (v := ?_) (fuel := 4) rfl (by kernel_rfl) (by kernel_rfl) (by kernel_rfl) (by kernel_rfl) (fun _ _ _ h => h) (fun Ls w' => by rw [getD_set_ne true (by omega)]) (fun _ => HSF.out) (.inl ⟨by rfl, ?_⟩) ?_
            rotate_left 1
            · rintro w' ⟨Ls, hcl, h0, hS⟩
              clear hS hcl h0
              go_simp <;> with_reducible rfl
            try simp only [Act.put, zq1, zq2, zq3, zq4, zq5, zq6]
            refine wpAnyL_take (i := 12) (v := ?_) (fuel := 3) rfl (by kernel_rfl) (by kernel_rfl) (by kernel_rfl) (by kernel_rfl) (fun _ _ _ h => h) (fun Ls w' => by rw [getD_set_ne true (by omega)]) (fun _ => HSF.out) (.inl ⟨by rfl, ?_⟩) ?_
            rotate_left 1
            · rintro w' ⟨Ls, hcl, h0, hS⟩
              clear hS hcl h0
              go_simp <;> with_reducible rfl
            try simp only [Act.put, zq1, zq2, zq3, zq4, zq5, zq6]
            refine wpAnyL_take (i := 13) (v := ?_) (fuel := 2) rfl (by kernel_rfl) (by kernel_rfl) (by kernel_rfl) (by kernel_rfl) (fun _ _ _ h => h) (fun Ls w' => by rw [getD_set_ne true (by omega)]) (fun _ => HSF.out) (.inl ⟨by rfl, ?_⟩) ?_
            rotate_left 1
            · rintro w' ⟨Ls, hcl, h0, hS⟩
              clear hS hcl h0
              go_simp <;> with_reducible rfl
            try simp only [Act.put, zq1, zq2, zq3, zq4, zq5, zq6]
            refine wpAnyL_take (i := 14) (v := ?_) (fuel := 1) rfl (by kernel_rfl) (by kernel_rfl) (by kernel_rfl) (by kernel_rfl) (fun _ _ _ h => h) (fun Ls w' => by rw [getD_set_ne true (by omega)]) (fun _ => HSF.out) (.inl ⟨by rfl, ?_⟩) ?_
            rotate_left 1
            · rintro w' ⟨Ls, hcl, h0, hS⟩
              clear hS hcl h0
              go_simp <;> with_reducible rfl
            try simp only [Act.put, zq1, zq2, zq3, zq4, zq5, zq6]
            have y1 := Lanes.cell HSF.out.1 BB1.out
            have y2 := Lanes.frozen HSF.out.1 q8
            have y3 := HSF.out.1.lt
            refine wpAnyL_one (i := 15) (fuel := 0) (by kernel_rfl) rfl (fun K hK => ?_)
            go_simp
            refine hK.out _ _ (fun h => (by cases h)) (fun _ => ?_)
            clear hK K
            try simp only [Act.put, zq1, zq2, zq3, zq4, zq5, zq6]
            refine wpAnyL_done (by kernel_rfl) ?_ 0
            have HDN := Lib.hid (show absN P o A (t + 1) = upd D q8 (D q8 ^^^ (X <<< UInt64.ofNat sh)) from by rw [← HQ8.out, ← HSH.out, ← HR8.out, ← HXX.out, ← HX.out, ← HOT.out, ← HDE.out]; rfl)
            clear y1 y2 y3 hwq e1 e2 e3 e4 e5 c1 c2 c3 c4 c5
            go_wp2
            go_roundw
            case rel =>
              refine ⟨t + 1, by omega, by rw [Int.natCast_add]; rfl, Lib.hid ?_, Lib.hid ?_, Lib.hid ?_⟩
              · rw [HDN.out]
                exact HSF.out.1.set BB1.out _
              · exact HSF.out.2.of_block (Below.heap_setCell _ _ _ _ (by have := HGA.out; show g ≠ ab; omega))
              · exact HB'.out.setCell (p := ⟨ab, q8, none⟩) HWA.out _
            case measure => simp [RowKit.intOf]; omega
          · have ht5 : t = 136 := by omega
            have g4 : ¬ ((t : Int) < 136) := by omega
            rw [ht5] at HA
            clear ht5 ht ht2 g3
            have hK2 := HK.out.but (But64.of_below (h := ab) HB.out) HNT.out
            have H := Lib.hid (permute_any ab _ wr HA.out hK2 HNT.out)
            clear hK2
            go_wp2_with fail
            refine H.out.mono ?_
            rintro e w5 ⟨⟨v5, rfl⟩, hl5, hbt5⟩
            have HA5 := Lib.hid (show Lanes 25 w5 ab (blkP P (k + 1)) from by
              show Lanes 25 w5 ab (permP (absN P (136 * k) (blkP P k) 136) 24)
              rw [HAE.out, ← HO.out]
              exact hl5)
            have HP5 := Lib.hid (show At8 w5 g (fun j => P.getD j 0) L from HP.out.of_block (hbt5.block g (by have := HA.out.lt; have := HGA.out; omega) (by have := HGA.out; omega)))
            have HB5 := Lib.hid (show Below w.heap.size w w5 from ⟨hbt5.os.trans HB.out.os, hbt5.tape.trans HB.out.tape, hbt5.output.trans HB.out.output, Nat.le_trans HB.out.size hbt5.size, fun j hj => (hbt5.block j (Nat.lt_of_lt_of_le hj HB.out.size) (by have := HWA.out; omega)).trans (HB.out.block j hj)⟩)
            clear hl5 hbt5 H HA HP HB
            have hnm : n % 136 = 0 := by have := HLE.out.1; have := HO.out; have := HON.out; omega
            have hn1 := HN1.out
            have hn2 := HN2.out
            by_cases hl : n = 136
            · have e7 : n - 136 = 0 := by omega
              have HNL := Lib.hid hl
              clear hnm hl
              go_wp2_with fail
              all_goals (
                obtain ⟨ob, hob⟩ : ∃ ob, w5.heap.size = ob := ⟨_, rfl⟩
                obtain ⟨w6, hw6⟩ : ∃ W, w5.alloc (.cells #[.int .u8 0, .int .u8 0, .int .u8 0, .int .u8 0, .int .u8 0, .int .u8 0, .int .u8 0, .int .u8 0, .int .u8 0, .int .u8 0, .int .u8 0, .int .u8 0, .int .u8 0, .int .u8 0, .int .u8 0, .int .u8 0, .int .u8 0, .int .u8 0, .int .u8 0, .int .u8 0, .int .u8 0, .int .u8 0, .int .u8 0, .int .u8 0, .int .u8 0, .int .u8 0, .int .u8 0, .int .u8 0, .int .u8 0, .int .u8 0, .int .u8 0, .int .u8 0] 71) = W := ⟨_, rfl⟩
                have l6 : Lanes 25 w6 ab (blkP P (k + 1)) := by rw [← hw6]; exact HA5.out.alloc _
                have b6 : Below w.heap.size w w6 := by rw [← hw6]; exact HB5.out.alloc HB5.out.size _
                have a6 : At8 w6 ob (fun _ => 0) 32 := by rw [← hw6, ← hob]; exact at8_zero 32 w5 _
                have hobab : ob ≠ ab := by have := HA5.out.lt; omega
                have hwob : w.heap.size ≤ ob := by rw [← hob]; exact HB5.out.size
                rw [hob, hw6]
                obtain ⟨Rr, hRr⟩ : ∃ R, blkP P (k + 1) = R := ⟨_, rfl⟩
                rw [hRr] at l6
                have HRR := Lib.hid hRr
                have L6 := Lib.hid l6
                have B6 := Lib.hid b6
                have A6 := Lib.hid (show At8 w6 ob (fun j => if j < 0 then outB Rr j else 0) 32 from a6)
                have HOA := Lib.hid hobab
                have HWO := Lib.hid hwob
                clear hob hw6 l6 b6 a6 hobab hwob hRr HA5 HB5 HP5
                go_loopw [52] (fun i wr => ∃ t : Nat, t ≤ 32 ∧ i = .int .i64 t ∧ Hid (Lanes 25 wr ab Rr) ∧ Hid (At8 wr ob (fun j => if j < t then outB Rr j else 0) 32) ∧ Hid (Below w.heap.size w wr)) (fun i _ => 32 - (RowKit.intOf i).toNat)
                case atStart => exact ⟨0, by omega, rfl, L6, A6, B6⟩
                case round =>
                  clear L6 A6 B6
                  obtain ⟨t, ht, rfl, HA, HP, HB⟩ := hrel
                  have g3 : (0 : Int) ≤ t := by omega
                  by_cases ht2 : t < 32
                  · have g4 : (t : Int) < 32 := by omega
                    obtain ⟨q8, hq8⟩ : ∃ q, t / 8 = q := ⟨_, rfl⟩
                    obtain ⟨r8, hr8⟩ : ∃ q, t % 8 = q := ⟨_, rfl⟩
                    have e1 : (t : Int).tdiv 8 = (q8 : Int) := by rw [← hq8, Int.tdiv_eq_ediv_of_nonneg (by omega)]; omega
                    have e2 : (t : Int).tmod 8 = (r8 : Int) := by rw [← hr8, Int.tmod_eq_emod_of_nonneg (by omega)]; omega
                    have b1 : q8 < 25 := by omega
                    have hwq : IntKind.i64.wrap (q8 : Int) = (q8 : Int) := by rw [IntKind.wrap_i64]; omega
                    have c1 : (0 : Int) ≤ q8 := by omega
                    have c2 : (q8 : Int) < 25 := by omega
                    obtain ⟨sh, hsh⟩ : ∃ q, 8 * r8 = q := ⟨_, rfl⟩
                    have e3 : IntKind.i64.wrap (8 * (r8 : Int)) = (sh : Int) := by rw [IntKind.wrap_i64]; omega
                    have c3 : (0 : Int) ≤ sh := by omega
                    obtain ⟨X, hX⟩ : ∃ X, Rr q8 = X := ⟨_, rfl⟩
                    have z0 := Lanes.cell HA.out b1
                    rw [hX] at z0
                    obtain ⟨Y, hY⟩ : ∃ Y, X >>> UInt64.ofNat sh = Y := ⟨_, rfl⟩
                    have e5 : lv X / 2 ^ min sh 64 = lv Y := by
                      rw [Nat.min_eq_left (show sh ≤ 64 by omega)]
                      have h := lv_shr X sh (by omega)
                      rw [Int.natCast_pow, hY] at h
                      exact h
                    obtain ⟨z, hz⟩ : ∃ z, Y.toUInt8 = z := ⟨_, rfl⟩
                    have e6 : IntKind.u8.wrap (lv Y) = (z.toNat : Int) := by
                      rw [← hz, IntKind.wrap_u8]
                      unfold lv
                      rw [UInt64.toNat_toUInt8]
                      omega
                    have y1 := (HP.out t ht2).1
                    have y2 := (HP.out t ht2).2
                    have y3 := World.block_lt_of_cell? _ _ y1
                    have HZV := Lib.hid (show outB Rr t = z from by rw [← hz, ← hY, ← hX, ← hsh, ← hr8, ← hq8]; rfl)
                    have HT2 := Lib.hid ht2
                    clear hq8 hr8 hsh hX hY hz
                    go_wp2
                    go_roundw
                    case rel =>
                      refine ⟨t + 1, by omega, by rw [Int.natCast_add]; rfl, Lib.hid ?_, Lib.hid ?_, Lib.hid ?_⟩
                      · exact HA.out.setOther (Ne.symm HOA.out) _
                      · have h := At8.set HP.out HT2.out z
                        refine fun j hj => ⟨?_, (h j hj).2⟩
                        have h' := (h j hj).1
                        rw [h']
                        show some (Value.int .u8 (((if j = t then z else if j < t then outB Rr j else 0).toNat : Nat) : Int)) = some (Value.int .u8 (((if j < t + 1 then outB Rr j else 0).toNat : Nat) : Int))
                        by_cases hjt : j = t
                        · subst hjt
                          rw [if_pos rfl, if_pos (by omega), HZV.out]
                        · rw [if_neg hjt]
                          by_cases hj2 : j < t
                          · rw [if_pos hj2, if_pos (by omega)]
                          · rw [if_neg hj2, if_neg (by omega)]
                      · exact HB.out.setCell (p := ⟨ob, t, none⟩) HWO.out _
                    case measure => simp [RowKit.intOf]; omega
                  · have ht5 : t = 32 := by omega
                    have g4 : ¬ ((t : Int) < 32) := by omega
                    have hPl : P.length = L := by rw [← HPE.out]; exact HPL.out
                    have hkk : P.length / 136 = k + 1 := by have := HO.out; have := HON.out; have := HNL.out; omega
                    have hfin : kout Rr 32 = keccakL s := by rw [← keccakL_P, ← HRR.out, HPE.out, hkk]
                    have hkl := kout_length Rr 32
                    have hcell : ∀ j u, (Lib.byteCells (kout Rr 32))[j]? = some u → wr.cell? ⟨ob, j, none⟩ = some u := fun j u hu => by
                      have hj : j < 32 := by
                        have := (List.getElem?_eq_some_iff.1 hu).1
                        rw [Lib.byteCells_length, hkl] at this
                        exact this
                      have h := (HP.out j hj).1
                      rw [h, ← hu]
                      show some (Value.int .u8 (((if j < t then outB Rr j else 0).toNat : Nat) : Int)) = _
                      rw [if_pos (by omega)]
                      simp only [Lib.byteCells, kout, List.map_map, List.getElem?_map]
                      rw [List.getElem?_range hj]
                      rfl
                    obtain ⟨l, hlq⟩ : ∃ l, kout Rr 32 = l := ⟨_, rfl⟩
                    rw [hlq] at hkl hcell hfin
                    have hobl : ob < wr.heap.size := World.block_lt_of_cell? _ _ (HP.out 0 (by decide)).1
                    have ho : OwnC w.heap.size wr (.slice (some ⟨ob, 0, none⟩) 32 32) l := .inr ⟨ob, 32, by rw [hkl], HWO.out, hobl, by omega, hcell, fun j hj => ⟨by rw [(HP.out j hj).1]; rfl, (HP.out j hj).2⟩⟩
                    have hstr := ho.str (P := Tryz.prog) (src := 55) (dst := 9) Tryz.underlying55 Tryz.underlying5 Tryz.underlying9
                    have HFIN := Lib.hid hfin
                    clear ho hcell hkl hlq hfin hPl hkk hobl ht5 ht HP HA
                    go_wp2
                    go_ret
                    exact ⟨by rw [HFIN.out]; rfl, HB.out⟩)
            · have hcc : cc ≠ 136 := by omega
              have e7 : ¬ n - 136 = 0 := by omega
              have HN3 := Lib.hid (show 136 ≤ n - 136 ∧ n - 136 ≤ cc - 136 ∧ o + 136 + (n - 136) = L ∧ o + 136 = 136 * (k + 1) ∧ n - 136 < n from ⟨by omega, by omega, by have := HON.out; omega, by have := HO.out; omega, by omega⟩)
              clear hnm hl
              go_wp2
              go_roundw
              case rel => exact ⟨k + 1, o + 136, n - 136, cc - 136, HN3.out.2.2.2.1, HN3.out.2.2.1, HN3.out.1, HN3.out.2.1, rfl, HA5, HP5, HB5⟩
              case measure => simp only [lenOf]; exact HN3.out.2.2.2.2
    · have g3 : (0 : Int) < (q : Int) := by omega
      have hlt : z < zm := by have := HZM.out; omega
      have HLT := Lib.hid hlt
      clear hL hLz hlt hz hzm2 hq hq0
      go_wp2_with (at_builtin; refine wpList_appendC rfl _ _ 55 rfl w.heap.size 5 Tryz.underlying55 infoByteK _ (s ++ 1 :: List.replicate z 0) rfl (HO.out.alloc _) ⟨wr.heap.size, 0, none⟩ 1 1 [0] rfl rfl ?c0 ?c1 ?c2 ?_)
      case c0 => exact cells_new_at rfl [.int .u8 0] _
      case c1 => have := HLZ.out; have := HL.out; have := HLT.out; have := HZM.out; omega
      case c2 => have := HB.out.size; simp; omega
      intro v' w' ho' hg'
      have hO' : OwnC w.heap.size w' v' (s ++ 1 :: List.replicate (z + 1) 0) := by
        rw [List.replicate_succ']
        exact ho'
      have hlz' : (s ++ 1 :: List.replicate (z + 1) 0).length = L + 1 := by have := HLZ.out; rw [List.length_append, List.length_cons, List.length_replicate]; omega
      have HOW := HO.out.lt
      have hB' : Below w.heap.size w w' := (HB.out.alloc HB.out.size _).grown hg' (by have := HB.out.size; simp; omega) (fun r e => (HOW r e).1)
      have HOO := Lib.hid hO'
      have HBB := Lib.hid hB'
      have HLL := Lib.hid hlz'
      clear ho' hg' hO' hB' hlz' HOW
      go_wp2
      go_roundw
      case rel => exact ⟨z + 1, HLT.out, HOO, HBB⟩
      case measure =>
        obtain ⟨p', c', rfl⟩ := HOO.out.form
        rw [HLL.out]
        simp only [lenOf]
        have := HLZ.out; have := HLT.out
        omega
end Go.Proofs.YtlelgbmbmajfmaaGreatDoor
namespace Go.Proofs.YtlelgbmbmajfmaaGreatDoor
open Go.RowKit Go.Shelf Go.Lib
attribute [local go_sem] Oper.semAt_some lv_and lv_or lv_xor lv_not lv_notM
theorem ret_i64 {a b : Int} (h : a = b) : Ending.returned (.int .i64 a) = .returned (.int .i64 b) := by rw [h]
theorem at_any (x y : Nat) (hx : x < 1099511627776) (hy : y < 1099511627776) (w : World) : Calls Tryz.prog 113 #[.int .i64 (x : Int), .int .i64 (y : Int)] w fun e w' => e = .returned (.int .i64 ((atR x y : Nat) : Int)) ∧ w' = w := by
  have h1 : IntKind.i64.wrap ((x : Int) + 10) = (x : Int) + 10 := by rw [IntKind.wrap_i64]; omega
  have h2 : IntKind.i64.wrap ((y : Int) + 10) = (y : Int) + 10 := by rw [IntKind.wrap_i64]; omega
  have h3 : ((x : Int) + 10).tmod 5 = ((x : Int) + 10) % 5 := Int.tmod_eq_emod_of_nonneg (by omega)
  have h4 : ((y : Int) + 10).tmod 5 = ((y : Int) + 10) % 5 := Int.tmod_eq_emod_of_nonneg (by omega)
  go_enter Tryz.func113, Tryz.ntmps113
  go_wp2
  go_ret
  refine ⟨ret_i64 ?_, rfl⟩
  unfold atR
  try simp only [IntKind.wrap_i64]
  omega
theorem left_zero (v : UInt64) (w : World) : Calls Tryz.prog 114 #[.int .u64 (lv v), .int .i64 0] w fun e w' => e = .returned (.int .u64 (lv v)) ∧ w' = w := by
  go_enter Tryz.func114, Tryz.ntmps114
  go_wp2
  go_ret
  exact ⟨rfl, rfl⟩
set_option maxHeartbeats 1000000 in
theorem left_pos (v : UInt64) (n : Nat) (h0 : 0 < n) (h1 : n < 64) (w : World) : Calls Tryz.prog 114 #[.int .u64 (lv v), .int .i64 (n : Int)] w fun e w' => e = .returned (.int .u64 (lv (rotl v n))) ∧ w' = w.drew := by
  have g0 : ¬ (n : Int) = 0 := by omega
  have g1 : (0 : Int) ≤ n := by omega
  have g2 : (n : Int) < 64 := by omega
  have hw : IntKind.i64.wrap (64 - (n : Int)) = 64 - (n : Int) := by rw [IntKind.wrap_i64]; omega
  have g3 : (0 : Int) ≤ 64 - (n : Int) := by omega
  go_enter Tryz.func114, Tryz.ntmps114
  go_wp2_with fail
  refine wp_region_held_drew (S := (fun _ => True)) (by kernel_rfl) (trivial) (fun hHeld => ?_)
  refine wpAnyH_take (i := 0) (v := ?_) rfl (by kernel_rfl) (by kernel_rfl) (by kernel_rfl) (fun _ _ _ h => h) (.inl ⟨by rfl, ?_⟩) (by assumption) ?_
  rotate_left 1
  · intro w0 hSw
    go_simp <;> with_reducible rfl
  try simp only [Act.put, zq1, zq2, zq4, zq5, zq6]
  refine wpAnyH_take (i := 1) (v := ?_) rfl (by kernel_rfl) (by kernel_rfl) (by kernel_rfl) (fun _ _ _ h => h) (.inl ⟨by rfl, ?_⟩) (by assumption) ?_
  rotate_left 1
  · intro w0 hSw
    go_simp <;> with_reducible rfl
  try simp only [Act.put, zq1, zq2, zq3, zq4, zq5, zq6]
  refine wpAnyH_take (i := 2) (v := ?_) rfl (by kernel_rfl) (by kernel_rfl) (by kernel_rfl) (fun _ _ _ h => h) (.inl ⟨by rfl, ?_⟩) (by assumption) ?_
  rotate_left 1
  · intro w0 hSw
    go_simp <;> with_reducible rfl
  try simp only [Act.put, zq1, zq2, zq3, zq4, zq5, zq6]
  refine wpAnyH_take (i := 3) (v := ?_) rfl (by kernel_rfl) (by kernel_rfl) (by kernel_rfl) (fun _ _ _ h => h) (.inl ⟨by rfl, ?_⟩) (by assumption) ?_
  rotate_left 1
  · intro w0 hSw
    go_simp <;> with_reducible rfl
  try simp only [Act.put, zq1, zq2, zq3, zq4, zq5, zq6]
  refine wpAnyH_take (i := 4) (v := ?_) rfl (by kernel_rfl) (by kernel_rfl) (by kernel_rfl) (fun _ _ _ h => h) (.inl ⟨by rfl, ?_⟩) (by assumption) ?_
  rotate_left 1
  · intro w0 hSw
    go_simp <;> with_reducible rfl
  try simp only [Act.put, zq1, zq2, zq3, zq4, zq5, zq6]
  refine wpAnyH_take (i := 5) (v := ?_) rfl (by kernel_rfl) (by kernel_rfl) (by kernel_rfl) (fun _ _ _ h => h) (.inl ⟨by rfl, ?_⟩) (by assumption) ?_
  rotate_left 1
  · intro w0 hSw
    go_simp <;> with_reducible rfl
  try simp only [Act.put, zq1, zq2, zq3, zq4, zq5, zq6]
  refine wpAnyH_take (i := 6) (v := ?_) rfl (by kernel_rfl) (by kernel_rfl) (by kernel_rfl) (fun _ _ _ h => h) (.inl ⟨by rfl, ?_⟩) (by assumption) ?_
  rotate_left 1
  · intro w0 hSw
    go_simp <;> with_reducible rfl
  try simp only [Act.put, zq1, zq2, zq3, zq4, zq5, zq6]
  refine wpAnyH_take (i := 7) (v := ?_) rfl (by kernel_rfl) (by kernel_rfl) (by kernel_rfl) (fun _ _ _ h => h) (.inl ⟨by rfl, ?_⟩) (by assumption) ?_
  rotate_left 1
  · intro w0 hSw
    go_simp <;> with_reducible rfl
  try simp only [Act.put, zq1, zq2, zq3, zq4, zq5, zq6]
  refine wpAnyH_take (i := 8) (v := ?_) rfl (by kernel_rfl) (by kernel_rfl) (by kernel_rfl) (fun _ _ _ h => h) (.inl ⟨by rfl, ?_⟩) (by assumption) ?_
  rotate_left 1
  · intro w0 hSw
    go_simp <;> with_reducible rfl
  try simp only [Act.put, zq1, zq2, zq3, zq4, zq5, zq6]
  refine wpAnyH_done (by kernel_rfl) ?_ 0
  go_wp2
  go_ret
  refine ⟨ret_u64 ?_, rfl⟩
  have e1 := lv_shl v n h1
  have e2 := lv_shr v (64 - n) (by omega)
  rw [Int.natCast_pow] at e1 e2
  have c2 : ((2 : Nat) : Int) = 2 := rfl
  rw [c2] at e1 e2
  rw [IntKind.wrap_u64, e1, e2, lv_or]
  rfl
theorem left_any (v : UInt64) (n : Nat) (h1 : n < 64) (w : World) : Calls Tryz.prog 114 #[.int .u64 (lv v), .int .i64 (n : Int)] w fun e w' => e = .returned (.int .u64 (lv (leftR v n))) ∧ Below w.heap.size w w' ∧ w'.heap = w.heap := by
  by_cases h0 : n = 0
  · subst h0
    refine (left_zero v w).mono ?_
    rintro e w' ⟨rfl, rfl⟩
    exact ⟨rfl, Below.refl _ _, rfl⟩
  · refine (left_pos v n (by omega) h1 w).mono ?_
    rintro e w' ⟨rfl, rfl⟩
    refine ⟨by rw [leftR_pos v h0], ?_, rfl⟩
    have := Below.refl w.heap.size w
    exact this.drew
theorem constR_row (i n : Nat) : (constR i n).1 < 256 := by
  induction n with
  | zero => exact (by decide : (1 : Nat) < 256)
  | succ n ih =>
    have key : ∀ r : Nat, r < 256 → (if 2 * r ≥ 256 then (2 * r) ^^^ 0x171 else 2 * r) < 256 := by decide +kernel
    exact key _ ih
theorem xor_row : ∀ r : Nat, r < 512 → bits .xor .i64 (r : Int) 369 = ((r ^^^ 0x171 : Nat) : Int) := by decide +kernel
theorem row_next (i n : Nat) : (constR i (n + 1)).1 = if 2 * (constR i n).1 ≥ 256 then (2 * (constR i n).1) ^^^ 0x171 else 2 * (constR i n).1 := rfl
theorem out_next (i n : Nat) : (constR i (n + 1)).2 = if 7 * i ≤ n ∧ (constR i n).1 % 2 = 1 then (constR i n).2 ||| 1 <<< UInt64.ofNat (2 ^ (n - 7 * i) - 1) else (constR i n).2 := rfl
theorem shl_const (o : UInt64) : ∀ j, j < 7 → bits .or .u64 (lv o) (IntKind.u64.wrap (2 ^ min (IntKind.u64.wrap (IntKind.u64.wrap (2 ^ j) - 1)).toNat 64)) = lv (o ||| 1 <<< UInt64.ofNat (2 ^ j - 1)) := by
  have key : ∀ j, j < 7 → IntKind.u64.wrap (2 ^ min (IntKind.u64.wrap (IntKind.u64.wrap (2 ^ j) - 1)).toNat 64) = lv (1 <<< UInt64.ofNat (2 ^ j - 1)) := by decide +kernel
  intro j hj
  rw [key j hj, lv_or]
set_option maxHeartbeats 3200000 in
theorem constant_any (i : Nat) (hi : i < 24) (w : World) : Calls Tryz.prog 115 #[.int .i64 (i : Int)] w fun e w' => e = .returned (.int .u64 (lv (constR i (7 * i + 7)).2)) ∧ w' = w := by
  have hw1 : IntKind.i64.wrap (7 * (i : Int)) = 7 * (i : Int) := by rw [IntKind.wrap_i64]; omega
  have hw2 : IntKind.i64.wrap (7 * (i : Int) + 7) = 7 * (i : Int) + 7 := by rw [IntKind.wrap_i64]; omega
  go_enter Tryz.func115, Tryz.ntmps115
  go_wp2
  go_loopw [3, 4, 5] (fun r o i' wr => ∃ n : Nat, n ≤ 7 * i + 7 ∧ r = .int .i64 ((constR i n).1 : Int) ∧ o = .int .u64 (lv (constR i n).2) ∧ i' = .int .i64 (n : Int) ∧ wr = w) (fun _ _ i' _ => 7 * i + 7 - (intOf i').toNat)
  case atStart => exact ⟨0, by omega, rfl, rfl, rfl, rfl⟩
  case round =>
    obtain ⟨n, hn, rfl, rfl, rfl, rfl⟩ := hrel
    have g1 : (0 : Int) ≤ n := by omega
    by_cases hn2 : n < 7 * i + 7
    · have g2 : (n : Int) < 7 * (i : Int) + 7 := by omega
      have hw3 : IntKind.i64.wrap ((n : Int) - 7 * (i : Int)) = (n : Int) - 7 * (i : Int) := by rw [IntKind.wrap_i64]; omega
      have hr := constR_row i n
      have hrn := row_next i n
      have hon := out_next i n
      obtain ⟨r, er⟩ : ∃ r, (constR i n).1 = r := ⟨_, rfl⟩
      obtain ⟨o, eo⟩ : ∃ o, (constR i n).2 = o := ⟨_, rfl⟩
      rw [er] at hr hrn hon
      rw [eo] at hon
      rw [er, eo]
      have hx := xor_row (2 * r) (by omega)
      have hwr : IntKind.i64.wrap (2 * (r : Int)) = 2 * (r : Int) := by rw [IntKind.wrap_i64]; omega
      rw [show ((2 * r : Nat) : Int) = 2 * (r : Int) from by omega] at hx
      have Hr := Lib.hid hrn
      have Ho := Lib.hid hon
      have Hx := Lib.hid hx
      clear hrn hon hx er eo
      by_cases c8 : 256 ≤ 2 * r
      · have d8 : 256 ≤ 2 * (r : Int) := by omega
        by_cases c7 : 7 * i ≤ n
        · have d7 : 7 * (i : Int) ≤ n := by omega
          by_cases c2 : r % 2 = 1
          · have d2 : (r : Int) % 2 = 1 := by omega
            go_wp2
            refine ⟨⟨n + 1, by omega, ?_, ?_, by rw [Int.natCast_add]; rfl, True.intro⟩, by simp only [intOf]; omega⟩
            · rw [Hr.out, if_pos (by omega)]
              exact congrArg (Value.int .i64) Hx.out
            · rw [Ho.out, if_pos ⟨c7, c2⟩]
              exact congrArg (Value.int .u64) (shl_const o (n - 7 * i) (by omega))
          · have d2 : ¬ (r : Int) % 2 = 1 := by omega
            go_wp2
            refine ⟨⟨n + 1, by omega, ?_, ?_, by rw [Int.natCast_add]; rfl, True.intro⟩, by simp only [intOf]; omega⟩
            · rw [Hr.out, if_pos (by omega)]
              exact congrArg (Value.int .i64) Hx.out
            · rw [Ho.out, if_neg (fun h => c2 h.2)]
        · have d7 : ¬ 7 * (i : Int) ≤ n := by omega
          go_wp2
          refine ⟨⟨n + 1, by omega, ?_, ?_, by rw [Int.natCast_add]; rfl, True.intro⟩, by simp only [intOf]; omega⟩
          · rw [Hr.out, if_pos (by omega)]
            exact congrArg (Value.int .i64) Hx.out
          · rw [Ho.out, if_neg (fun h => c7 h.1)]
      · have d8 : ¬ 256 ≤ 2 * (r : Int) := by omega
        by_cases c7 : 7 * i ≤ n
        · have d7 : 7 * (i : Int) ≤ n := by omega
          by_cases c2 : r % 2 = 1
          · have d2 : (r : Int) % 2 = 1 := by omega
            go_wp2
            refine ⟨⟨n + 1, by omega, ?_, ?_, by rw [Int.natCast_add]; rfl, True.intro⟩, by simp only [intOf]; omega⟩
            · rw [Hr.out, if_neg (by omega)]
              exact congrArg (Value.int .i64) (by omega)
            · rw [Ho.out, if_pos ⟨c7, c2⟩]
              exact congrArg (Value.int .u64) (shl_const o (n - 7 * i) (by omega))
          · have d2 : ¬ (r : Int) % 2 = 1 := by omega
            go_wp2
            refine ⟨⟨n + 1, by omega, ?_, ?_, by rw [Int.natCast_add]; rfl, True.intro⟩, by simp only [intOf]; omega⟩
            · rw [Hr.out, if_neg (by omega)]
              exact congrArg (Value.int .i64) (by omega)
            · rw [Ho.out, if_neg (fun h => c2 h.2)]
        · have d7 : ¬ 7 * (i : Int) ≤ n := by omega
          go_wp2
          refine ⟨⟨n + 1, by omega, ?_, ?_, by rw [Int.natCast_add]; rfl, True.intro⟩, by simp only [intOf]; omega⟩
          · rw [Hr.out, if_neg (by omega)]
            exact congrArg (Value.int .i64) (by omega)
          · rw [Ho.out, if_neg (fun h => c7 h.1)]
    · have g2 : ¬ ((n : Int) < 7 * (i : Int) + 7) := by omega
      have hn5 : n = 7 * i + 7 := by omega
      go_wp2
      go_ret
      exact ⟨rfl, rfl⟩
def Nums (N : Nat) (W : World) (b : Nat) (f : Nat → Nat) : Prop := ∃ cs t, W.heap[b]? = some (.cells cs t (0, 0)) ∧ cs.size = N ∧ ∀ j, j < N → cs[j]? = some (.int .i64 (f j : Int))
theorem Nums.lt {N : Nat} {W : World} {b : Nat} {f : Nat → Nat} (h : Nums N W b f) : b < W.heap.size := by
  obtain ⟨cs, t, h1, _⟩ := h
  exact (Array.getElem?_eq_some_iff.1 h1).1
theorem Nums.cell {N : Nat} {W : World} {b : Nat} {f : Nat → Nat} (h : Nums N W b f) {j : Nat} (hj : j < N) : W.cell? ⟨b, j, none⟩ = some (.int .i64 (f j : Int)) := by
  obtain ⟨cs, t, h1, h2, h3⟩ := h
  rw [World.cell?, h1]
  exact h3 j hj
theorem Nums.frozen {N : Nat} {W : World} {b : Nat} {f : Nat → Nat} (h : Nums N W b f) (j : Nat) : W.frozen? ⟨b, j, none⟩ = false := by
  obtain ⟨cs, t, h1, h2, h3⟩ := h
  rw [World.frozen?, h1]; simp
theorem Nums.set {N : Nat} {W : World} {b : Nat} {f : Nat → Nat} (h : Nums N W b f) {i : Nat} (hi : i < N) (v : Nat) : Nums N (W.setCell ⟨b, i, none⟩ (.int .i64 (v : Int))) b (fun j => if j = i then v else f j) := by
  obtain ⟨cs, t, h1, h2, h3⟩ := h
  obtain ⟨hlt, hk⟩ := Array.getElem?_eq_some_iff.1 h1
  refine ⟨cs.setIfInBounds i (.int .i64 (v : Int)), t, ?_, by rw [Array.size_setIfInBounds, h2], fun j hj => ?_⟩
  · show (W.heap.modify b _)[b]? = _
    rw [Array.getElem?_eq_getElem (by rw [Array.size_modify]; exact hlt), Array.getElem_modify_self, hk]
    rfl
  · show _ = some (Value.int .i64 ((if j = i then v else f j : Nat) : Int))
    by_cases hji : j = i
    · subst hji
      rw [Array.getElem?_setIfInBounds_self_of_lt (by omega), if_pos rfl]
    · rw [Array.getElem?_setIfInBounds_ne (fun e => hji e.symm), if_neg hji, h3 j hj]
theorem Nums.kept {N : Nat} {W W' : World} {b : Nat} {f : Nat → Nat} (h : Nums N W b f) (hb : W'.heap[b]? = W.heap[b]?) : Nums N W' b f := by
  obtain ⟨cs, t, h1, h2, h3⟩ := h
  exact ⟨cs, t, hb.trans h1, h2, h3⟩
theorem Nums.setOther {N : Nat} {W : World} {b c i : Nat} {f : Nat → Nat} (h : Nums N W b f) (hne : b ≠ c) (v : Value) : Nums N (W.setCell ⟨c, i, none⟩ v) b f := h.kept (Below.heap_setCell W ⟨c, i, none⟩ v b hne)
theorem Nums.alloc {N : Nat} {W : World} {b : Nat} {f : Nat → Nat} (h : Nums N W b f) (o : Obj) : Nums N (W.alloc o) b f := h.kept (Below.heap_alloc W o b h.lt)
theorem Nums.new (N : Nat) (W : World) (f : Nat → Nat) (cs : Array Value) (t : TypeId) (hn : cs.size = N) (hc : ∀ j, j < N → cs[j]? = some (.int .i64 (f j : Int))) : Nums N (W.alloc (.cells cs t)) W.heap.size f :=
  ⟨cs, t, World.alloc_heap_new W _, hn, hc⟩
theorem nums_zero (N : Nat) (W : World) (t : TypeId) : Nums N (W.alloc (.cells (List.replicate N (Value.int .i64 0)).toArray t)) W.heap.size (fun _ => 0) :=
  Nums.new N W _ _ t (by simp) (fun j hj => by simp [hj])
def numV (f : Nat → Nat) : List Value := (List.range 25).map fun j => Value.int .i64 (f j : Int)
def lanV (f : Nat → UInt64) : List Value := (List.range 25).map fun j => Value.int .u64 (lv (f j))
theorem Nums.row {W : World} {b : Nat} {f : Nat → Nat} (h : Nums 25 W b f) : W.rangeAt b 0 (numV f) := fun j v hj => by
  unfold numV at hj
  rw [List.getElem?_map] at hj
  by_cases hl : j < 25
  · rw [List.getElem?_range hl] at hj
    cases hj
    rw [Nat.zero_add]
    exact h.cell hl
  · rw [List.getElem?_eq_none (by simp; omega)] at hj
    cases hj
theorem Lanes.row25 {W : World} {b : Nat} {f : Nat → UInt64} (h : Lanes 25 W b f) : W.rangeAt b 0 (lanV f) := fun j v hj => by
  unfold lanV at hj
  rw [List.getElem?_map] at hj
  by_cases hl : j < 25
  · rw [List.getElem?_range hl] at hj
    cases hj
    rw [Nat.zero_add]
    exact h.cell hl
  · rw [List.getElem?_eq_none (by simp; omega)] at hj
    cases hj
theorem infoNum : (Tryz.prog.info? 161).map (·.size) = some 25 := by kernel_rfl
theorem infoLan : (Tryz.prog.info? 163).map (·.size) = some 25 := by kernel_rfl
theorem numV_len (f : Nat → Nat) : (numV f).length = 25 := by unfold numV; rw [List.length_map, List.length_range]
theorem lanV_len (f : Nat → UInt64) : (lanV f).length = 25 := by unfold lanV; rw [List.length_map, List.length_range]
theorem turnsR_lt (t : Nat) : (turnsR t).1 < 5 ∧ (turnsR t).2.1 < 5 := by
  induction t with
  | zero => exact ⟨(by decide : (1 : Nat) < 5), (by decide : (0 : Nat) < 5)⟩
  | succ t ih => exact ⟨ih.2, Nat.mod_lt _ (by decide)⟩
theorem turns_next (t : Nat) : turnsR (t + 1) = ((turnsR t).2.1, (2 * (turnsR t).1 + 3 * (turnsR t).2.1) % 5, fun j => if j = atR (turnsR t).1 (turnsR t).2.1 then (t + 1) * (t + 2) / 2 % 64 else (turnsR t).2.2 j) := rfl
theorem atR_lt (x y : Nat) : atR x y < 25 := by unfold atR; omega
theorem Nums.there {W : World} {b : Nat} {f : Nat → Nat} (h : Nums 25 W b f) (g : Nat → Nat) : W.there b 0 (numV g).toArray.size := by
  intro j hj
  have := numV_len g
  have hj' : j < 25 := by simpa [this] using hj
  rw [Nat.zero_add]
  exact ⟨by rw [h.cell hj']; rfl, h.frozen j⟩
theorem numV_one (f : Nat → Nat) : (numV f).toArray.all (·.oneCell') = true := all_oneCell_toArray (by
  intro v hv
  unfold numV at hv
  obtain ⟨j, _, rfl⟩ := List.mem_map.1 hv
  rfl)
theorem sets_belowK {B b : Nat} (hB : B ≤ b) : ∀ (vs : List Value) (o : Nat) (W : World), Below B W (W.setCells b o vs)
  | [], _, _ => Below.refl _ _
  | v :: vs, o, W => ((Below.refl B W).setCell (p := ⟨b, o, none⟩) hB v).trans (sets_belowK hB vs (o + 1) _)
theorem cells_setK (b : Nat) : ∀ (vs : List Value) (o : Nat) (W : World) (cs : Array Value) (t : TypeId), W.heap[b]? = some (.cells cs t (0, 0)) → ∃ cs', (W.setCells b o vs).heap[b]? = some (.cells cs' t (0, 0)) ∧ cs'.size = cs.size
  | [], _, _, cs, _, h => ⟨cs, h, rfl⟩
  | v :: vs, o, W, cs, t, h => by
    obtain ⟨hlt, hk⟩ := Array.getElem?_eq_some_iff.1 h
    have h1 : (W.setCell ⟨b, o, none⟩ v).heap[b]? = some (.cells (cs.setIfInBounds o v) t (0, 0)) := by
      show (W.heap.modify b _)[b]? = _
      rw [Array.getElem?_eq_getElem (by rw [Array.size_modify]; exact hlt), Array.getElem_modify_self, hk]
      rfl
    obtain ⟨cs', h2, h3⟩ := cells_setK b vs (o + 1) _ _ t h1
    exact ⟨cs', h2, by rw [h3, Array.size_setIfInBounds]⟩
theorem numV_at (f : Nat → Nat) {j : Nat} (hj : j < 25) : (numV f)[j]? = some (.int .i64 (f j : Int)) := by
  unfold numV
  rw [List.getElem?_map, List.getElem?_range hj]
  rfl
theorem lanV_at (f : Nat → UInt64) {j : Nat} (hj : j < 25) : (lanV f)[j]? = some (.int .u64 (lv (f j))) := by
  unfold lanV
  rw [List.getElem?_map, List.getElem?_range hj]
  rfl
theorem Lanes.there {W : World} {b : Nat} {f : Nat → UInt64} (h : Lanes 25 W b f) (g : Nat → UInt64) : W.there b 0 (lanV g).toArray.size := by
  intro j hj
  have := lanV_len g
  have hj' : j < 25 := by simpa [this] using hj
  rw [Nat.zero_add]
  exact ⟨by rw [h.cell hj']; rfl, h.frozen j⟩
theorem lanV_one (f : Nat → UInt64) : (lanV f).toArray.all (·.oneCell') = true := all_oneCell_toArray (by
  intro v hv
  unfold lanV at hv
  obtain ⟨j, _, rfl⟩ := List.mem_map.1 hv
  rfl)
theorem Nums.laid {W : World} {b : Nat} {f : Nat → Nat} (h : Nums 25 W b f) (g : Nat → Nat) : Nums 25 (W.setCells b 0 (numV g)) b g := by
  have hr := World.rangeAt_setCells_same W b 0 (numV g) (by have z := h.there g; rw [List.size_toArray] at z; exact z)
  obtain ⟨cs, t, h1, h2, h3⟩ := h
  obtain ⟨cs', k1, k2⟩ := cells_setK b (numV g) 0 W cs t h1
  obtain ⟨W', hW⟩ : ∃ W', W.setCells b 0 (numV g) = W' := ⟨_, rfl⟩
  rw [hW] at hr k1 ⊢
  refine ⟨cs', t, k1, k2.trans h2, fun j hj => ?_⟩
  have := hr j _ (numV_at g hj)
  rw [Nat.zero_add, World.cell?, k1] at this
  exact this
theorem Lanes.laid {W : World} {b : Nat} {f : Nat → UInt64} (h : Lanes 25 W b f) (g : Nat → UInt64) : Lanes 25 (W.setCells b 0 (lanV g)) b g := by
  have hr := World.rangeAt_setCells_same W b 0 (lanV g) (by have z := h.there g; rw [List.size_toArray] at z; exact z)
  obtain ⟨cs, t, h1, h2, h3⟩ := h
  obtain ⟨cs', k1, k2⟩ := cells_setK b (lanV g) 0 W cs t h1
  obtain ⟨W', hW⟩ : ∃ W', W.setCells b 0 (lanV g) = W' := ⟨_, rfl⟩
  rw [hW] at hr k1 ⊢
  refine ⟨cs', t, k1, k2.trans h2, fun j hj => ?_⟩
  have := hr j _ (lanV_at g hj)
  rw [Nat.zero_add, World.cell?, k1] at this
  exact this
theorem results_cellK {P : Program} {fn : Func} {p : Tmp} {ty : TypeId} (h : fn.results = #[.cell p ty]) (tmps : Array Value) (w : World) (b : Nat) (cs : List Value) (d : TypeDesc)
    (hp : tmps.getD p undef = .pointer (some ⟨b, 0, none⟩)) (hR : w.rangeAt b 0 cs)
    (hu : P.underlying ty = some d) (hd : d.isRow = true) (hi : (P.info? ty).map (·.size) = some cs.length) :
    (results fn tmps).run P w = .ok (.agg cs.toArray) w := by
  have hp' : tmps[p]?.getD undef = .pointer (some ⟨b, 0, none⟩) := by simpa using hp
  simp [results, h, hp', asAddr, run_loadVar_mid w b 0 ty cs d hR hu hd hi]
set_option maxHeartbeats 6400000 in
theorem turns_any (w : World) : Calls Tryz.prog 88 #[] w fun e w' => e = .returned (.agg (numV (turnsR 24).2.2).toArray) ∧ Below w.heap.size w w' := by
  obtain ⟨b0, hb0⟩ : ∃ b, w.heap.size = b := ⟨_, rfl⟩
  obtain ⟨w1, hw1⟩ : ∃ W, w.alloc (.cells (List.replicate 25 (Value.int .i64 0)).toArray 161) = W := ⟨_, rfl⟩
  obtain ⟨w2, hw2⟩ : ∃ W, w1.alloc (.cells (List.replicate 25 (Value.int .i64 0)).toArray 161) = W := ⟨_, rfl⟩
  have s1 : w1.heap.size = b0 + 1 := by rw [← hw1, World.size_alloc, hb0]
  have n1 := nums_zero 25 w 161
  rw [hw1, hb0] at n1
  have n2 := nums_zero 25 w1 161
  rw [hw2, s1] at n2
  have n1' := n1.alloc (.cells (List.replicate 25 (Value.int .i64 0)).toArray 161)
  rw [hw2] at n1'
  have bb := ((Below.refl b0 w).alloc (by omega) (.cells (List.replicate 25 (Value.int .i64 0)).toArray 161))
  rw [hw1] at bb
  have bb2 := bb.alloc (by omega) (.cells (List.replicate 25 (Value.int .i64 0)).toArray 161)
  rw [hw2] at bb2
  have HW : w2 = (w.alloc (.cells #[.int .i64 0, .int .i64 0, .int .i64 0, .int .i64 0, .int .i64 0, .int .i64 0, .int .i64 0, .int .i64 0, .int .i64 0, .int .i64 0, .int .i64 0, .int .i64 0, .int .i64 0, .int .i64 0, .int .i64 0, .int .i64 0, .int .i64 0, .int .i64 0, .int .i64 0, .int .i64 0, .int .i64 0, .int .i64 0, .int .i64 0, .int .i64 0, .int .i64 0] 161)).alloc (.cells #[.int .i64 0, .int .i64 0, .int .i64 0, .int .i64 0, .int .i64 0, .int .i64 0, .int .i64 0, .int .i64 0, .int .i64 0, .int .i64 0, .int .i64 0, .int .i64 0, .int .i64 0, .int .i64 0, .int .i64 0, .int .i64 0, .int .i64 0, .int .i64 0, .int .i64 0, .int .i64 0, .int .i64 0, .int .i64 0, .int .i64 0, .int .i64 0, .int .i64 0] 161) := by rw [← hw2, ← hw1]; rfl
  have HWH := Lib.hid HW
  have HN0 := Lib.hid n1'
  have HN1 := Lib.hid n2
  have HB0 := Lib.hid bb2
  clear hw1 hw2 s1 n1 n2 n1' bb bb2 HW
  go_enter Tryz.func88, Tryz.ntmps88
  go_wp2
  rw [← HWH.out]
  clear HWH
  go_loopw [2, 3, 4] (fun x y t wr => ∃ n : Nat, n ≤ 24 ∧ x = .int .i64 ((turnsR n).1 : Int) ∧ y = .int .i64 ((turnsR n).2.1 : Int) ∧ t = .int .i64 (n : Int) ∧ Hid (Nums 25 wr (b0 + 1) (turnsR n).2.2) ∧ Hid (Nums 25 wr b0 (fun _ => 0)) ∧ Hid (Below b0 w wr)) (fun _ _ t _ => 24 - (intOf t).toNat)
  case atStart => exact ⟨0, by omega, rfl, rfl, rfl, HN1, HN0, HB0⟩
  case round =>
    obtain ⟨n, hn, rfl, rfl, rfl, HN1, HN0, HB⟩ := hrel
    have g1 : (0 : Int) ≤ n := by omega
    by_cases hn2 : n < 24
    · have g2 : (n : Int) < 24 := by omega
      have hlt := turnsR_lt n
      have hnx := turns_next n
      obtain ⟨x, hx⟩ : ∃ x, (turnsR n).1 = x := ⟨_, rfl⟩
      obtain ⟨y, hy⟩ : ∃ x, (turnsR n).2.1 = x := ⟨_, rfl⟩
      obtain ⟨f, hf⟩ : ∃ x, (turnsR n).2.2 = x := ⟨_, rfl⟩
      obtain ⟨p, hp⟩ : ∃ p, (n + 1) * (n + 2) = p := ⟨_, rfl⟩
      obtain ⟨q, hq⟩ : ∃ q, p / 2 = q := ⟨_, rfl⟩
      obtain ⟨m, hm⟩ : ∃ m, q % 64 = m := ⟨_, rfl⟩
      obtain ⟨z, hz⟩ : ∃ z, (2 * x + 3 * y) % 5 = z := ⟨_, rfl⟩
      obtain ⟨ax, hax⟩ : ∃ a, atR x y = a := ⟨_, rfl⟩
      rw [hx, hy, hf, hp, hq, hm, hz, hax] at hnx
      rw [hx, hy] at hlt
      rw [hf] at HN1
      rw [hx, hy]
      have hal := atR_lt x y
      rw [hax] at hal
      have p1 : p ≤ 600 := by rw [← hp]; exact Nat.mul_le_mul (show n + 1 ≤ 24 by omega) (show n + 2 ≤ 25 by omega)
      have e1 : IntKind.i64.wrap ((n : Int) + 1) = (n : Int) + 1 := by rw [IntKind.wrap_i64]; omega
      have e2 : IntKind.i64.wrap ((n : Int) + 2) = (n : Int) + 2 := by rw [IntKind.wrap_i64]; omega
      have e3 : ((n : Int) + 1) * ((n : Int) + 2) = (p : Int) := by rw [← hp]; push_cast; rfl
      have e4 : IntKind.i64.wrap (p : Int) = (p : Int) := by rw [IntKind.wrap_i64]; omega
      have e5 : (p : Int).tdiv 2 = (q : Int) := by rw [Int.tdiv_eq_ediv_of_nonneg (by omega)]; omega
      have e6 : IntKind.i64.wrap (q : Int) = (q : Int) := by rw [IntKind.wrap_i64]; omega
      have e7 : (q : Int).tmod 64 = (m : Int) := by rw [Int.tmod_eq_emod_of_nonneg (by omega)]; omega
      have e8 : IntKind.i64.wrap (2 * (x : Int)) = 2 * (x : Int) := by rw [IntKind.wrap_i64]; omega
      have e9 : IntKind.i64.wrap (3 * (y : Int)) = 3 * (y : Int) := by rw [IntKind.wrap_i64]; omega
      have e10 : IntKind.i64.wrap (2 * (x : Int) + 3 * (y : Int)) = 2 * (x : Int) + 3 * (y : Int) := by rw [IntKind.wrap_i64]; omega
      have e11 : (2 * (x : Int) + 3 * (y : Int)).tmod 5 = (z : Int) := by rw [Int.tmod_eq_emod_of_nonneg (by omega)]; omega
      have f1 : (0 : Int) ≤ ax := by omega
      have f2 : (ax : Int) < 25 := by omega
      have z1 := HN1.out.cell hal
      have z2 := HN1.out.frozen ax
      have z3 := HN1.out.lt
      have HX := Lib.hid (And.intro hlt.1 hlt.2)
      have HNX := Lib.hid hnx
      have HAX := Lib.hid hax
      have HAL := Lib.hid hal
      clear hlt hnx hx hy hf hp hq hm hz hax hal p1
      go_wp2_with (go_at_call 113; refine (at_any x y (by have := HX.out; omega) (by have := HX.out; omega) _).mono ?_; rintro e w2 ⟨rfl, rfl⟩; rw [HAX.out])
      go_roundw
      case rel =>
        refine ⟨n + 1, by omega, by rw [HNX.out], by rw [HNX.out], by rw [Int.natCast_add]; rfl, Lib.hid ?_, Lib.hid ?_, Lib.hid ?_⟩
        · rw [HNX.out]
          exact HN1.out.set HAL.out m
        · exact HN0.out.setOther (by omega) _
        · exact HB.out.setCell (by show b0 ≤ b0 + 1; omega) _
      case measure => simp [intOf]; omega
    · have g2 : ¬ ((n : Int) < 24) := by omega
      have hn5 : n = 24 := by omega
      rw [hn5] at HN1
      go_wp2_with (first | ((with_reducible refine load_gateK 161 ?_); refine wpList_load_mid rfl 161 _ rfl (b0 + 1) 0 rfl (numV (turnsR 24).2.2) _ HN1.out.row Tryz.underlying161 rfl (by rw [numV_len]; exact infoNum) ?_) | ((with_reducible refine store_gateK 161 ?_); refine wpList_store_mid rfl 161 _ _ rfl b0 0 (numV (turnsR 24).2.2).toArray rfl rfl (HN0.out.there _) (by rw [List.size_toArray, numV_len]; exact infoNum) (numV_one _) ?_))
      refine bodyPost_ret (v := .agg (numV (turnsR 24).2.2).toArray) (results_cellK rfl _ _ b0 (numV (turnsR 24).2.2) _ (by rfl) (HN0.out.laid _).row Tryz.underlying161 rfl (by rw [numV_len]; exact infoNum)) rfl ⟨rfl, ?_⟩
      exact HB.out.trans (sets_belowK (Nat.le_refl _) _ _ _)
end Go.Proofs.YtlelgbmbmajfmaaGreatDoor
/- The reference's Keccak: a round. -/
namespace Go.Proofs.YtlelgbmbmajfmaaGreatDoor
open Go.RowKit Go.Shelf Go.Lib
attribute [local go_sem] Oper.semAt_some lv_and lv_or lv_xor lv_not lv_notM
def roundG (a : Nat → UInt64) (i : Nat) (r : Nat → Nat) : Nat → UInt64 :=
  let b := chiR (rhoR (colR a 25) r a 25) 25
  upd b 0 (b 0 ^^^ (constR i (7 * i + 7)).2)
theorem col_next (a : Nat → UInt64) (x y : Nat) (hy : y < 5) : colR a (5 * x + y + 1) = upd (colR a (5 * x + y)) x (colR a (5 * x + y) x ^^^ a (atR x y)) := by
  have h1 : (5 * x + y) / 5 = x := by omega
  have h2 : (5 * x + y) % 5 = y := by omega
  show upd _ _ _ = _
  rw [h1, h2]
theorem rho_next (c : Nat → UInt64) (r : Nat → Nat) (a : Nat → UInt64) (x y : Nat) (hy : y < 5) : rhoR c r a (5 * x + y + 1) = upd (rhoR c r a (5 * x + y)) (atR y (2 * x + 3 * y)) (leftR (a (atR x y) ^^^ c ((x + 4) % 5) ^^^ leftR (c ((x + 1) % 5)) 1) (r (atR x y))) := by
  have h1 : (5 * x + y) / 5 = x := by omega
  have h2 : (5 * x + y) % 5 = y := by omega
  show upd _ _ _ = _
  rw [h1, h2]
theorem chi_next (b : Nat → UInt64) (x y : Nat) (hy : y < 5) : chiR b (5 * x + y + 1) = upd (chiR b (5 * x + y)) (atR x y) (b (atR x y) ^^^ (~~~ b (atR (x + 1) y) &&& b (atR (x + 2) y))) := by
  have h1 : (5 * x + y) / 5 = x := by omega
  have h2 : (5 * x + y) % 5 = y := by omega
  show upd _ _ _ = _
  rw [h1, h2]
structure Frm (w : World) (b0 : Nat) (A : Nat → UInt64) (r : Nat → Nat) (W : World) : Prop where
  la : Lanes 25 W b0 A
  nr : Nums 25 W (b0 + 1) r
  lz : Lanes 25 W (b0 + 2) zeroL
  bel : Below b0 w W
theorem Frm.set {w W : World} {b0 q i : Nat} {A : Nat → UInt64} {r : Nat → Nat} (h : Frm w b0 A r W) (hq : b0 + 3 ≤ q) (v : Value) : Frm w b0 A r (W.setCell ⟨q, i, none⟩ v) :=
  ⟨h.la.setOther (by omega) v, h.nr.setOther (by omega) v, h.lz.setOther (by omega) v, h.bel.setCell (by show b0 ≤ q; omega) v⟩
theorem Frm.alloc {w W : World} {b0 : Nat} {A : Nat → UInt64} {r : Nat → Nat} (h : Frm w b0 A r W) (o : Obj) : Frm w b0 A r (W.alloc o) :=
  ⟨h.la.alloc o, h.nr.alloc o, h.lz.alloc o, h.bel.alloc (Nat.le_of_lt h.la.lt) o⟩
theorem Frm.same {w W W' : World} {b0 : Nat} {A : Nat → UInt64} {r : Nat → Nat} (h : Frm w b0 A r W) (hb : Below W.heap.size W W') (he : W'.heap = W.heap) : Frm w b0 A r W' :=
  ⟨h.la.kept (by rw [he]), h.nr.kept (by rw [he]), h.lz.kept (by rw [he]), h.bel.trans (hb.mono (Nat.le_of_lt h.la.lt))⟩
theorem Frm.drew {w W : World} {b0 : Nat} {A : Nat → UInt64} {r : Nat → Nat} (h : Frm w b0 A r W) : Frm w b0 A r W.drew := ⟨h.la.kept rfl, h.nr.kept rfl, h.lz.kept rfl, h.bel.drew⟩
theorem left_one (v : UInt64) (w : World) : Calls Tryz.prog 114 #[.int .u64 (lv v), .int .i64 1] w fun e w' => e = .returned (.int .u64 (lv (leftR v 1))) ∧ Below w.heap.size w w' ∧ w'.heap = w.heap := left_any v 1 (by decide) w
theorem lv_notK (x : UInt64) : bits .xor .u64 (if IntKind.u64.signed = true then -1 else IntKind.u64.max) (lv x) = lv (~~~x) := lv_not x
attribute [local go_sem] lv_notK
theorem lanes_val (W : World) (f : Nat → UInt64) (t : TypeId) : Lanes 25 (W.alloc (.cells (lanV f).toArray t)) W.heap.size f :=
  Lanes.new 25 W f _ t (by rw [List.size_toArray, lanV_len]) (fun j hj => by rw [List.getElem?_toArray]; exact lanV_at f hj)
theorem nums_val (W : World) (f : Nat → Nat) (t : TypeId) : Nums 25 (W.alloc (.cells (numV f).toArray t)) W.heap.size f :=
  Nums.new 25 W f _ t (by rw [List.size_toArray, numV_len]) (fun j hj => by rw [List.getElem?_toArray]; exact numV_at f hj)
set_option maxRecDepth 100000 in
set_option maxHeartbeats 12800000 in
theorem round_any (A : Nat → UInt64) (i : Nat) (hi : i < 24) (r : Nat → Nat) (hr : ∀ j, j < 25 → r j < 64) (w : World) : Calls Tryz.prog 89 #[.agg (lanV A).toArray, .int .i64 (i : Int), .agg (numV r).toArray] w fun e w' => e = .returned (.agg (lanV (roundG A i r)).toArray) ∧ Below w.heap.size w w' := by
  obtain ⟨b0, hb0⟩ : ∃ b, w.heap.size = b := ⟨_, rfl⟩
  have HR := Lib.hid hr
  have HI := Lib.hid hi
  clear hr hi
  obtain ⟨w1, hw1⟩ : ∃ W, w.alloc (.cells (lanV A).toArray 163) = W := ⟨_, rfl⟩
  obtain ⟨w2, hw2⟩ : ∃ W, w1.alloc (.cells (numV r).toArray 161) = W := ⟨_, rfl⟩
  obtain ⟨w3, hw3⟩ : ∃ W, w2.alloc (.cells (List.replicate 25 (Value.int .u64 0)).toArray 163) = W := ⟨_, rfl⟩
  obtain ⟨w4, hw4⟩ : ∃ W, w3.alloc (.cells (List.replicate 5 (Value.int .u64 0)).toArray 134) = W := ⟨_, rfl⟩
  have s1 : w1.heap.size = b0 + 1 := by rw [← hw1, World.size_alloc, hb0]
  have s2 : w2.heap.size = b0 + 2 := by rw [← hw2, World.size_alloc, s1]
  have s3 : w3.heap.size = b0 + 3 := by rw [← hw3, World.size_alloc, s2]
  have F4 : Frm w b0 A r w4 ∧ Lanes 5 w4 (b0 + 3) zeroL := by
    have a1 := lanes_val w A 163
    rw [hw1, hb0] at a1
    have a2 := a1.alloc (.cells (numV r).toArray 161)
    rw [hw2] at a2
    have r2 := nums_val w1 r 161
    rw [hw2, s1] at r2
    have a3 := a2.alloc (.cells (List.replicate 25 (Value.int .u64 0)).toArray 163)
    rw [hw3] at a3
    have r3 := r2.alloc (.cells (List.replicate 25 (Value.int .u64 0)).toArray 163)
    rw [hw3] at r3
    have z3 := lanes_zero 25 w2 163
    rw [hw3, s2] at z3
    have q1 := (Below.refl b0 w).alloc (by omega) (.cells (lanV A).toArray 163)
    rw [hw1] at q1
    have q2 := q1.alloc (by omega) (.cells (numV r).toArray 161)
    rw [hw2] at q2
    have q3 := q2.alloc (by omega) (.cells (List.replicate 25 (Value.int .u64 0)).toArray 163)
    rw [hw3] at q3
    have z4 := lanes_zero 5 w3 134
    rw [hw4, s3] at z4
    have F3 : Frm w b0 A r w3 := ⟨a3, r3, z3, q3⟩
    have F4 := F3.alloc (.cells (List.replicate 5 (Value.int .u64 0)).toArray 134)
    rw [hw4] at F4
    exact ⟨F4, z4⟩
  have HW : w4 = ((((w.alloc (.cells (lanV A).toArray 163)).alloc (.cells (numV r).toArray 161)).alloc (.cells #[.int .u64 0, .int .u64 0, .int .u64 0, .int .u64 0, .int .u64 0, .int .u64 0, .int .u64 0, .int .u64 0, .int .u64 0, .int .u64 0, .int .u64 0, .int .u64 0, .int .u64 0, .int .u64 0, .int .u64 0, .int .u64 0, .int .u64 0, .int .u64 0, .int .u64 0, .int .u64 0, .int .u64 0, .int .u64 0, .int .u64 0, .int .u64 0, .int .u64 0] 163)).alloc (.cells #[.int .u64 0, .int .u64 0, .int .u64 0, .int .u64 0, .int .u64 0] 134)) := by rw [← hw4, ← hw3, ← hw2, ← hw1]; rfl
  have HWH := Lib.hid HW
  have HF := Lib.hid F4.1
  have HC := Lib.hid F4.2
  clear HW F4 s1 s2 s3 hw1 hw2 hw3 hw4
  go_enter Tryz.func89, Tryz.ntmps89
  go_wp2
  rw [← HWH.out]
  clear HWH w1 w2 w3
  go_loopw [8] (fun i wr => ∃ x : Nat, x ≤ 5 ∧ i = .int .i64 x ∧ Hid (Frm w b0 A r wr) ∧ Hid (Lanes 5 wr (b0 + 3) (colR A (5 * x)))) (fun i _ => 5 - (intOf i).toNat)
  case atStart => exact ⟨0, by omega, rfl, HF, HC⟩
  case round =>
    obtain ⟨x, hx, rfl, HF, HC⟩ := hrel
    have g1 : (0 : Int) ≤ x := by omega
    by_cases hx2 : x < 5
    · have g2 : (x : Int) < 5 := by omega
      go_wp2_with fail
      go_loopw [9] (fun i wr => ∃ y : Nat, y ≤ 5 ∧ i = .int .i64 y ∧ Hid (Frm w b0 A r wr) ∧ Hid (Lanes 5 wr (b0 + 3) (colR A (5 * x + y)))) (fun i _ => 5 - (intOf i).toNat)
      case atStart => exact ⟨0, by omega, rfl, HF, HC⟩
      case round =>
        obtain ⟨y, hy, rfl, HF, HC⟩ := hrel
        have g3 : (0 : Int) ≤ y := by omega
        by_cases hy2 : y < 5
        · have g4 : (y : Int) < 5 := by omega
          have hnx := col_next A x y hy2
          obtain ⟨C, hC⟩ : ∃ C, colR A (5 * x + y) = C := ⟨_, rfl⟩
          obtain ⟨p, hp⟩ : ∃ p, atR x y = p := ⟨_, rfl⟩
          have hpl := atR_lt x y
          rw [hC, hp] at hnx
          rw [hp] at hpl
          rw [hC] at HC
          have f1 : (0 : Int) ≤ p := by omega
          have f2 : (p : Int) < 25 := by omega
          have HSF := Lib.hid (show Lanes 25 wr.drew b0 A ∧ Lanes 5 wr.drew (b0 + 3) C from ⟨HF.out.la.kept rfl, HC.out.kept rfl⟩)
          have HFD := Lib.hid HF.out.drew
          have HNX := Lib.hid hnx
          have HP := Lib.hid hp
          have HPL := Lib.hid hpl
          clear hnx hC hp hpl HF HC
          go_wp2_with fail
          refine wp_region_L (fun Ls w' => Ls.getD 11 true = false → Lanes 25 w' b0 A ∧ Lanes 5 w' (b0 + 3) C) (by kernel_rfl) ?_
          refine wpAnyL_take (i := 0) (v := ?_) (fuel := 11) rfl (by kernel_rfl) (by kernel_rfl) (by kernel_rfl) (by kernel_rfl) (fun _ _ _ h => h) (fun Ls w' => by rw [getD_set_ne true (by omega)]) (fun _ => HSF.out) (.inl ⟨by rfl, ?_⟩) ?_
          rotate_left 1
          · rintro w' ⟨Ls, hcl, h0, hS⟩
            clear hS hcl h0
            go_simp <;> with_reducible rfl
          try simp only [Act.put, zq1, zq2, zq4, zq5, zq6]
          refine wpAnyL_take (i := 1) (v := ?_) (fuel := 10) rfl (by kernel_rfl) (by kernel_rfl) (by kernel_rfl) (by kernel_rfl) (fun _ _ _ h => h) (fun Ls w' => by rw [getD_set_ne true (by omega)]) (fun _ => HSF.out) (.inl ⟨by rfl, ?_⟩) ?_
          rotate_left 1
          · rintro w' ⟨Ls, hcl, h0, hS⟩
            clear hS hcl h0
            go_simp <;> with_reducible rfl
          try simp only [Act.put, zq1, zq2, zq3, zq4, zq5, zq6]
          refine wpAnyL_take (i := 2) (v := ?_) (fuel := 9) rfl (by kernel_rfl) (by kernel_rfl) (by kernel_rfl) (by kernel_rfl) (fun _ _ _ h => h) (fun Ls w' => by rw [getD_set_ne true (by omega)]) (fun _ => HSF.out) (.inl ⟨by rfl, ?_⟩) ?_
          rotate_left 1
          · rintro w' ⟨Ls, hcl, h0, hS⟩
            clear hS hcl h0
            go_simp <;> with_reducible rfl
          try simp only [Act.put, zq1, zq2, zq3, zq4, zq5, zq6]
          refine wpAnyL_take (i := 3) (v := ?_) (fuel := 8) rfl (by kernel_rfl) (by kernel_rfl) (by kernel_rfl) (by kernel_rfl) (fun _ _ _ h => h) (fun Ls w' => by rw [getD_set_ne true (by omega)]) (fun _ => HSF.out) (.inl ⟨by rfl, ?_⟩) ?_
          rotate_left 1
          · rintro w' ⟨Ls, hcl, h0, hS⟩
            have hSw := hS (closedB_before hcl (i := 3) (by kernel_rfl) h0)
            have z0 := Lanes.cell hSw.1 HPL.out
            have z1 := Lanes.cell hSw.2 hx2
            clear hS hcl h0
            go_simp <;> with_reducible rfl
          try simp only [Act.put, zq1, zq2, zq3, zq4, zq5, zq6]
          refine wpAnyL_take (i := 4) (v := ?_) (fuel := 7) rfl (by kernel_rfl) (by kernel_rfl) (by kernel_rfl) (by kernel_rfl) (fun _ _ _ h => h) (fun Ls w' => by rw [getD_set_ne true (by omega)]) (fun _ => HSF.out) (.inl ⟨by rfl, ?_⟩) ?_
          rotate_left 1
          · rintro w' ⟨Ls, hcl, h0, hS⟩
            clear hS hcl h0
            go_simp <;> with_reducible rfl
          try simp only [Act.put, zq1, zq2, zq3, zq4, zq5, zq6]
          refine wpAnyL_take (i := 5) (v := ?_) (fuel := 6) rfl (by kernel_rfl) (by kernel_rfl) (by kernel_rfl) (by kernel_rfl) (fun _ _ _ h => h) (fun Ls w' => by rw [getD_set_ne true (by omega)]) (fun _ => HSF.out) (.inl ⟨by rfl, ?_⟩) ?_
          rotate_left 1
          · rintro w' ⟨Ls, hcl, h0, hS⟩
            clear hS hcl h0
            go_simp <;> with_reducible rfl
          try simp only [Act.put, zq1, zq2, zq3, zq4, zq5, zq6]
          refine wpAnyL_one (i := 6) (fuel := 5) (by kernel_rfl) rfl (fun K hK => ?_)
          go_simp
          go_at_call 113
          refine (at_any x y (by omega) (by omega) _).mono ?_
          rintro e w2 ⟨rfl, rfl⟩
          rw [HP.out]
          refine hK.out _ _ (fun h => HSF.out) (fun _ => ?_)
          clear hK K
          try simp only [Act.put, zq1, zq2, zq3, zq4, zq5, zq6]
          refine wpAnyL_take (i := 7) (v := ?_) (fuel := 4) rfl (by kernel_rfl) (by kernel_rfl) (by kernel_rfl) (by kernel_rfl) (fun _ _ _ h => h) (fun Ls w' => by rw [getD_set_ne true (by omega)]) (fun _ => HSF.out) (.inl ⟨by rfl, ?_⟩) ?_
          rotate_left 1
          · rintro w' ⟨Ls, hcl, h0, hS⟩
            clear hS hcl h0
            go_simp <;> with_reducible rfl
          try simp only [Act.put, zq1, zq2, zq3, zq4, zq5, zq6]
          refine wpAnyL_take (i := 8) (v := ?_) (fuel := 3) rfl (by kernel_rfl) (by kernel_rfl) (by kernel_rfl) (by kernel_rfl) (fun _ _ _ h => h) (fun Ls w' => by rw [getD_set_ne true (by omega)]) (fun _ => HSF.out) (.inl ⟨by rfl, ?_⟩) ?_
          rotate_left 1
          · rintro w' ⟨Ls, hcl, h0, hS⟩
            have hSw := hS (closedB_before hcl (i := 8) (by kernel_rfl) h0)
            have z0 := Lanes.cell hSw.1 HPL.out
            have z1 := Lanes.cell hSw.2 hx2
            clear hS hcl h0
            go_simp <;> with_reducible rfl
          try simp only [Act.put, zq1, zq2, zq3, zq4, zq5, zq6]
          refine wpAnyL_take (i := 9) (v := ?_) (fuel := 2) rfl (by kernel_rfl) (by kernel_rfl) (by kernel_rfl) (by kernel_rfl) (fun _ _ _ h => h) (fun Ls w' => by rw [getD_set_ne true (by omega)]) (fun _ => HSF.out) (.inl ⟨by rfl, ?_⟩) ?_
          rotate_left 1
          · rintro w' ⟨Ls, hcl, h0, hS⟩
            clear hS hcl h0
            go_simp <;> with_reducible rfl
          try simp only [Act.put, zq1, zq2, zq3, zq4, zq5, zq6]
          refine wpAnyL_take (i := 10) (v := ?_) (fuel := 1) rfl (by kernel_rfl) (by kernel_rfl) (by kernel_rfl) (by kernel_rfl) (fun _ _ _ h => h) (fun Ls w' => by rw [getD_set_ne true (by omega)]) (fun _ => HSF.out) (.inl ⟨by rfl, ?_⟩) ?_
          rotate_left 1
          · rintro w' ⟨Ls, hcl, h0, hS⟩
            clear hS hcl h0
            go_simp <;> with_reducible rfl
          try simp only [Act.put, zq1, zq2, zq3, zq4, zq5, zq6]
          have y1 := Lanes.cell HSF.out.2 hx2
          have y2 := Lanes.frozen HSF.out.2 x
          have y3 := HSF.out.2.lt
          refine wpAnyL_one (i := 11) (fuel := 0) (by kernel_rfl) rfl (fun K hK => ?_)
          go_simp
          refine hK.out _ _ (fun h => (by cases h)) (fun _ => ?_)
          clear hK K
          try simp only [Act.put, zq1, zq2, zq3, zq4, zq5, zq6]
          refine wpAnyL_done (by kernel_rfl) ?_ 0
          clear y1 y2 y3 f1 f2
          go_wp2
          go_roundw
          case rel =>
            refine ⟨y + 1, by omega, by rw [Int.natCast_add]; rfl, Lib.hid (HFD.out.set (by omega) _), Lib.hid ?_⟩
            show Lanes 5 _ _ (colR A (5 * x + y + 1))
            rw [HNX.out]
            exact HSF.out.2.set hx2 _
          case measure => simp [intOf]; omega
        · have g4 : ¬ ((y : Int) < 5) := by omega
          have hy5 : y = 5 := by omega
          rw [hy5] at HC
          clear hy5
          go_wp2
          go_roundw
          case rel => exact ⟨x + 1, by omega, by rw [Int.natCast_add]; rfl, HF, HC⟩
          case measure => simp [intOf]; omega
    · have g2 : ¬ ((x : Int) < 5) := by omega
      have hx5 : x = 5 := by omega
      rw [hx5] at HC
      clear hx5 hx hx2
      obtain ⟨C, hC⟩ : ∃ C, colR A 25 = C := ⟨_, rfl⟩
      have HC := Lib.hid (show Lanes 5 wr (b0 + 3) C from hC ▸ HC.out)
      have HCE := Lib.hid hC
      obtain ⟨bb, hbb⟩ : ∃ b, wr.heap.size = b := ⟨_, rfl⟩
      obtain ⟨w5, hw5⟩ : ∃ W, wr.alloc (.cells (List.replicate 25 (Value.int .u64 0)).toArray 163) = W := ⟨_, rfl⟩
      have hbl : b0 + 4 ≤ bb := by have := HC.out.lt; omega
      have fa := HF.out.alloc (.cells (List.replicate 25 (Value.int .u64 0)).toArray 163)
      have ca := HC.out.alloc (.cells (List.replicate 25 (Value.int .u64 0)).toArray 163)
      have ba := lanes_zero 25 wr 163
      rw [hw5] at fa ca ba
      rw [hbb] at ba
      have HW5 : Hid (wr.alloc (.cells #[.int .u64 0, .int .u64 0, .int .u64 0, .int .u64 0, .int .u64 0, .int .u64 0, .int .u64 0, .int .u64 0, .int .u64 0, .int .u64 0, .int .u64 0, .int .u64 0, .int .u64 0, .int .u64 0, .int .u64 0, .int .u64 0, .int .u64 0, .int .u64 0, .int .u64 0, .int .u64 0, .int .u64 0, .int .u64 0, .int .u64 0, .int .u64 0, .int .u64 0] 163) = w5) := Lib.hid hw5
      have HF := Lib.hid fa
      have HC := Lib.hid ca
      have HM := Lib.hid ba
      clear hC hw5 fa ca ba
      go_wp2_with fail
      rw [HW5.out]
      clear HW5 hbb g1 g2
      go_loopw [11] (fun i wr => ∃ x : Nat, x ≤ 5 ∧ i = .int .i64 x ∧ Hid (Frm w b0 A r wr) ∧ Hid (Lanes 5 wr (b0 + 3) C) ∧ Hid (Lanes 25 wr bb (rhoR C r A (5 * x)))) (fun i _ => 5 - (intOf i).toNat)
      case atStart => exact ⟨0, by omega, rfl, HF, HC, HM⟩
      case round =>
        obtain ⟨x, hx, rfl, HF, HC, HM⟩ := hrel
        have g1 : (0 : Int) ≤ x := by omega
        by_cases hx2 : x < 5
        · have g2 : (x : Int) < 5 := by omega
          go_wp2_with fail
          go_loopw [12] (fun i wr => ∃ y : Nat, y ≤ 5 ∧ i = .int .i64 y ∧ Hid (Frm w b0 A r wr) ∧ Hid (Lanes 5 wr (b0 + 3) C) ∧ Hid (Lanes 25 wr bb (rhoR C r A (5 * x + y)))) (fun i _ => 5 - (intOf i).toNat)
          case atStart => exact ⟨0, by omega, rfl, HF, HC, HM⟩
          case round =>
            obtain ⟨y, hy, rfl, HF, HC, HM⟩ := hrel
            have g3 : (0 : Int) ≤ y := by omega
            by_cases hy2 : y < 5
            · have g4 : (y : Int) < 5 := by omega
              have hnx := rho_next C r A x y hy2
              obtain ⟨M, hM⟩ : ∃ M, rhoR C r A (5 * x + y) = M := ⟨_, rfl⟩
              obtain ⟨p, hp⟩ : ∃ p, atR x y = p := ⟨_, rfl⟩
              obtain ⟨q4, hq4⟩ : ∃ q, (x + 4) % 5 = q := ⟨_, rfl⟩
              obtain ⟨q1, hq1⟩ : ∃ q, (x + 1) % 5 = q := ⟨_, rfl⟩
              obtain ⟨s, hs⟩ : ∃ q, 2 * x + 3 * y = q := ⟨_, rfl⟩
              obtain ⟨d, hd⟩ : ∃ q, atR y s = q := ⟨_, rfl⟩
              have hpl := atR_lt x y
              have hdl := atR_lt y s
              have m4 : q4 < 5 := by omega
              have m1 : q1 < 5 := by omega
              have hsl : s < 100 := by omega
              rw [hM, hs, hd, hp, hq4, hq1] at hnx
              rw [hp] at hpl
              rw [hd] at hdl
              rw [hM] at HM
              have e1 : IntKind.i64.wrap ((x : Int) + 4) = (x : Int) + 4 := by rw [IntKind.wrap_i64]; omega
              have e2 : IntKind.i64.wrap ((x : Int) + 1) = (x : Int) + 1 := by rw [IntKind.wrap_i64]; omega
              have e3 : ((x : Int) + 4).tmod 5 = (q4 : Int) := by rw [Int.tmod_eq_emod_of_nonneg (by omega)]; omega
              have e4 : ((x : Int) + 1).tmod 5 = (q1 : Int) := by rw [Int.tmod_eq_emod_of_nonneg (by omega)]; omega
              have e5 : IntKind.i64.wrap (2 * (x : Int)) = 2 * (x : Int) := by rw [IntKind.wrap_i64]; omega
              have e6 : IntKind.i64.wrap (3 * (y : Int)) = 3 * (y : Int) := by rw [IntKind.wrap_i64]; omega
              have e7 : 2 * (x : Int) + 3 * (y : Int) = (s : Int) := by omega
              have e8 : IntKind.i64.wrap (s : Int) = (s : Int) := by rw [IntKind.wrap_i64]; omega
              have f1 : (0 : Int) ≤ p := by omega
              have f2 : (p : Int) < 25 := by omega
              have f3 : (0 : Int) ≤ d := by omega
              have f4 : (d : Int) < 25 := by omega
              have f5 : (0 : Int) ≤ q4 := by omega
              have f6 : (q4 : Int) < 5 := by omega
              have f7 : (0 : Int) ≤ q1 := by omega
              have f8 : (q1 : Int) < 5 := by omega
              have HS0 : Frm w b0 A r wr.drew ∧ Lanes 5 wr.drew (b0 + 3) C ∧ Lanes 25 wr.drew bb M := ⟨HF.out.drew, HC.out.kept rfl, HM.out.kept rfl⟩
              have HSF := Lib.hid HS0
              have HNX := Lib.hid hnx
              have HP := Lib.hid hp
              have HPL := Lib.hid hpl
              have HD := Lib.hid hd
              have HDL := Lib.hid hdl
              have HM4 := Lib.hid m4
              have HM1 := Lib.hid m1
              have HSL := Lib.hid hsl
              clear hnx hM hp hpl hd hdl HF HC HM m4 m1 hq4 hq1 hs hsl HS0
              go_wp2_with fail
              refine wp_region_held_drew (S := fun W => Frm w b0 A r W ∧ Lanes 5 W (b0 + 3) C ∧ Lanes 25 W bb M) (by kernel_rfl) (HSF.out) (fun hHeld => ?_)
              refine wpAnyH_take (i := 0) (v := ?_) rfl (by kernel_rfl) (by kernel_rfl) (by kernel_rfl) (fun _ _ _ h => h) (.inl ⟨by rfl, ?_⟩) (by assumption) ?_
              rotate_left 1
              · intro w0 hSw
                go_simp <;> with_reducible rfl
              try simp only [Act.put, zq1, zq2, zq4, zq5, zq6]
              refine wpAnyH_take (i := 1) (v := ?_) rfl (by kernel_rfl) (by kernel_rfl) (by kernel_rfl) (fun _ _ _ h => h) (.inl ⟨by rfl, ?_⟩) (by assumption) ?_
              rotate_left 1
              · intro w0 hSw
                go_simp <;> with_reducible rfl
              try simp only [Act.put, zq1, zq2, zq3, zq4, zq5, zq6]
              refine wpAnyH_take (i := 5) (v := ?_) rfl (by kernel_rfl) (by kernel_rfl) (by kernel_rfl) (fun _ _ _ h => h) (.inl ⟨by rfl, ?_⟩) (by assumption) ?_
              rotate_left 1
              · intro w0 hSw
                go_simp <;> with_reducible rfl
              try simp only [Act.put, zq1, zq2, zq3, zq4, zq5, zq6]
              refine wpAnyH_take (i := 6) (v := ?_) rfl (by kernel_rfl) (by kernel_rfl) (by kernel_rfl) (fun _ _ _ h => h) (.inl ⟨by rfl, ?_⟩) (by assumption) ?_
              rotate_left 1
              · intro w0 hSw
                go_simp <;> with_reducible rfl
              try simp only [Act.put, zq1, zq2, zq3, zq4, zq5, zq6]
              refine wpAnyH_take (i := 7) (v := ?_) rfl (by kernel_rfl) (by kernel_rfl) (by kernel_rfl) (fun _ _ _ h => h) (.inl ⟨by rfl, ?_⟩) (by assumption) ?_
              rotate_left 1
              · intro w0 hSw
                go_simp <;> with_reducible rfl
              try simp only [Act.put, zq1, zq2, zq3, zq4, zq5, zq6]
              refine wpAnyH_take (i := 8) (v := ?_) rfl (by kernel_rfl) (by kernel_rfl) (by kernel_rfl) (fun _ _ _ h => h) (.inl ⟨by rfl, ?_⟩) (by assumption) ?_
              rotate_left 1
              · intro w0 hSw
                go_simp <;> with_reducible rfl
              try simp only [Act.put, zq1, zq2, zq3, zq4, zq5, zq6]
              refine wpAnyH_take (i := 9) (v := ?_) rfl (by kernel_rfl) (by kernel_rfl) (by kernel_rfl) (fun _ _ _ h => h) (.inl ⟨by rfl, ?_⟩) (by assumption) ?_
              rotate_left 1
              · intro w0 hSw
                have z0 := Lanes.cell hSw.1.la HPL.out
                have z1 := Lanes.cell hSw.2.1 HM4.out
                have z2 := Lanes.cell hSw.2.1 HM1.out
                go_simp <;> with_reducible rfl
              try simp only [Act.put, zq1, zq2, zq3, zq4, zq5, zq6]
              refine wpAnyH_take (i := 11) (v := ?_) rfl (by kernel_rfl) (by kernel_rfl) (by kernel_rfl) (fun _ _ _ h => h) (.inl ⟨by rfl, ?_⟩) (by assumption) ?_
              rotate_left 1
              · intro w0 hSw
                go_simp <;> with_reducible rfl
              try simp only [Act.put, zq1, zq2, zq3, zq4, zq5, zq6]
              refine wpAnyH_take (i := 12) (v := ?_) rfl (by kernel_rfl) (by kernel_rfl) (by kernel_rfl) (fun _ _ _ h => h) (.inl ⟨by rfl, ?_⟩) (by assumption) ?_
              rotate_left 1
              · intro w0 hSw
                go_simp <;> with_reducible rfl
              try simp only [Act.put, zq1, zq2, zq3, zq4, zq5, zq6]
              refine wpAnyH_take (i := 13) (v := ?_) rfl (by kernel_rfl) (by kernel_rfl) (by kernel_rfl) (fun _ _ _ h => h) (.inl ⟨by rfl, ?_⟩) (by assumption) ?_
              rotate_left 1
              · intro w0 hSw
                go_simp <;> with_reducible rfl
              try simp only [Act.put, zq1, zq2, zq3, zq4, zq5, zq6]
              refine wpAnyH_take (i := 14) (v := ?_) rfl (by kernel_rfl) (by kernel_rfl) (by kernel_rfl) (fun _ _ _ h => h) (.inl ⟨by rfl, ?_⟩) (by assumption) ?_
              rotate_left 1
              · intro w0 hSw
                go_simp <;> with_reducible rfl
              try simp only [Act.put, zq1, zq2, zq3, zq4, zq5, zq6]
              refine wpAnyH_take (i := 15) (v := ?_) rfl (by kernel_rfl) (by kernel_rfl) (by kernel_rfl) (fun _ _ _ h => h) (.inl ⟨by rfl, ?_⟩) (by assumption) ?_
              rotate_left 1
              · intro w0 hSw
                have z0 := Lanes.cell hSw.1.la HPL.out
                have z1 := Lanes.cell hSw.2.1 HM4.out
                have z2 := Lanes.cell hSw.2.1 HM1.out
                go_simp <;> with_reducible rfl
              try simp only [Act.put, zq1, zq2, zq3, zq4, zq5, zq6]
              refine wpAnyH_ready (rs := [2]) (by kernel_rfl) (by simp) ?_
              refine AllReadyH.cons rfl (fun K hK => ?_) AllReadyH.nil
              go_simp
              go_at_call 113
              refine (at_any x y (by omega) (by omega) _).mono ?_
              rintro e w2 ⟨rfl, rfl⟩
              rw [HP.out]
              refine hK.out _ _ (hHeld) (fun hHeld => ?_)
              clear hK K
              try simp only [Act.put, zq1, zq2, zq3, zq4, zq5, zq6]
              refine wpAnyH_take (i := 3) (v := ?_) rfl (by kernel_rfl) (by kernel_rfl) (by kernel_rfl) (fun _ _ _ h => h) (.inl ⟨by rfl, ?_⟩) (by assumption) ?_
              rotate_left 1
              · intro w0 hSw
                go_simp <;> with_reducible rfl
              try simp only [Act.put, zq1, zq2, zq3, zq4, zq5, zq6]
              refine wpAnyH_take (i := 4) (v := ?_) rfl (by kernel_rfl) (by kernel_rfl) (by kernel_rfl) (fun _ _ _ h => h) (.inl ⟨by rfl, ?_⟩) (by assumption) ?_
              rotate_left 1
              · intro w0 hSw
                have z0 := Lanes.cell hSw.1.la HPL.out
                have z1 := Lanes.cell hSw.2.1 HM4.out
                have z2 := Lanes.cell hSw.2.1 HM1.out
                go_simp <;> with_reducible rfl
              try simp only [Act.put, zq1, zq2, zq3, zq4, zq5, zq6]
              refine wpAnyH_take (i := 10) (v := ?_) rfl (by kernel_rfl) (by kernel_rfl) (by kernel_rfl) (fun _ _ _ h => h) (.inl ⟨by rfl, ?_⟩) (by assumption) ?_
              rotate_left 1
              · intro w0 hSw
                go_simp <;> with_reducible rfl
              try simp only [Act.put, zq1, zq2, zq3, zq4, zq5, zq6]
              refine wpAnyH_ready (rs := [16]) (by kernel_rfl) (by simp) ?_
              refine AllReadyH.cons rfl (fun K hK => ?_) AllReadyH.nil
              go_simp
              go_at_call 114
              refine (left_one (C q1) _).mono ?_
              rintro e w2 ⟨rfl, hb2, he2⟩
              refine hK.out _ _ (⟨hHeld.1.same hb2 he2, hHeld.2.1.kept (by rw [he2]), hHeld.2.2.kept (by rw [he2])⟩) (fun hHeld => ?_)
              clear hK K
              try simp only [Act.put, zq1, zq2, zq3, zq4, zq5, zq6]
              refine wpAnyH_take (i := 17) (v := ?_) rfl (by kernel_rfl) (by kernel_rfl) (by kernel_rfl) (fun _ _ _ h => h) (.inl ⟨by rfl, ?_⟩) (by assumption) ?_
              rotate_left 1
              · intro w0 hSw
                go_simp <;> with_reducible rfl
              try simp only [Act.put, zq1, zq2, zq3, zq4, zq5, zq6]
              refine wpAnyH_take (i := 18) (v := ?_) rfl (by kernel_rfl) (by kernel_rfl) (by kernel_rfl) (fun _ _ _ h => h) (.inl ⟨by rfl, ?_⟩) (by assumption) ?_
              rotate_left 1
              · intro w0 hSw
                go_simp <;> with_reducible rfl
              try simp only [Act.put, zq1, zq2, zq3, zq4, zq5, zq6]
              refine wpAnyH_done (by kernel_rfl) ?_ 0
              have HH := Lib.hid hHeld
              have hnr := hHeld.1.nr
              have z1 := hnr.cell HPL.out
              have z2 := hnr.lt
              clear hHeld hnr
              go_wp2_with (first | (go_at_call 113; refine (at_any _ _ (by omega) (by have := HSL.out; omega) _).mono ?_; rintro e w3 ⟨rfl, rfl⟩; first | rw [HD.out] | rw [HP.out]) | (go_at_call 114; refine (left_any _ (r p) (HR.out p HPL.out) _).mono ?_; rintro e w4 ⟨rfl, hb4, he4⟩; have K4 := Lib.hid (And.intro (HH.out.1.same hb4 he4) (And.intro (Lanes.kept (W' := w4) HH.out.2.1 (by rw [he4])) (Lanes.kept (W' := w4) HH.out.2.2 (by rw [he4])))); have y1 := K4.out.2.2.cell HDL.out; have y2 := K4.out.2.2.frozen d; have y3 := K4.out.2.2.lt; clear hb4 he4))
              go_roundw
              case rel =>
                refine ⟨y + 1, by omega, by rw [Int.natCast_add]; rfl, Lib.hid (K4.out.1.set (by omega) _), Lib.hid (K4.out.2.1.setOther (by omega) _), Lib.hid ?_⟩
                show Lanes 25 _ _ (rhoR C r A (5 * x + y + 1))
                rw [HNX.out]
                exact K4.out.2.2.set HDL.out _
              case measure => simp [intOf]; omega
            · have g4 : ¬ ((y : Int) < 5) := by omega
              have hy5 : y = 5 := by omega
              rw [hy5] at HM
              clear hy5
              go_wp2
              go_roundw
              case rel => exact ⟨x + 1, by omega, by rw [Int.natCast_add]; rfl, HF, HC, HM⟩
              case measure => simp [intOf]; omega
        · have g2 : ¬ ((x : Int) < 5) := by omega
          have hx5 : x = 5 := by omega
          rw [hx5] at HM
          clear hx5 hx hx2
          obtain ⟨B, hB⟩ : ∃ B, rhoR C r A 25 = B := ⟨_, rfl⟩
          have HM := Lib.hid (show Lanes 25 wr bb B from hB ▸ HM.out)
          have HBE := Lib.hid hB
          obtain ⟨ob, hob⟩ : ∃ b, wr.heap.size = b := ⟨_, rfl⟩
          obtain ⟨w6, hw6⟩ : ∃ W, wr.alloc (.cells (List.replicate 25 (Value.int .u64 0)).toArray 163) = W := ⟨_, rfl⟩
          have hol : bb < ob := by have := HM.out.lt; omega
          have fa := HF.out.alloc (.cells (List.replicate 25 (Value.int .u64 0)).toArray 163)
          have ca := HM.out.alloc (.cells (List.replicate 25 (Value.int .u64 0)).toArray 163)
          have ba := lanes_zero 25 wr 163
          rw [hw6] at fa ca ba
          rw [hob] at ba
          have HW6 : Hid (wr.alloc (.cells #[.int .u64 0, .int .u64 0, .int .u64 0, .int .u64 0, .int .u64 0, .int .u64 0, .int .u64 0, .int .u64 0, .int .u64 0, .int .u64 0, .int .u64 0, .int .u64 0, .int .u64 0, .int .u64 0, .int .u64 0, .int .u64 0, .int .u64 0, .int .u64 0, .int .u64 0, .int .u64 0, .int .u64 0, .int .u64 0, .int .u64 0, .int .u64 0, .int .u64 0] 163) = w6) := Lib.hid hw6
          have HF := Lib.hid fa
          have HM := Lib.hid ca
          have HO := Lib.hid ba
          clear hB hw6 fa ca ba
          go_wp2_with fail
          rw [HW6.out]
          clear HW6 hob g1 g2
          go_loopw [15] (fun i wr => ∃ x : Nat, x ≤ 5 ∧ i = .int .i64 x ∧ Hid (Frm w b0 A r wr) ∧ Hid (Lanes 25 wr bb B) ∧ Hid (Lanes 25 wr ob (chiR B (5 * x)))) (fun i _ => 5 - (intOf i).toNat)
          case atStart => exact ⟨0, by omega, rfl, HF, HM, HO⟩
          case round =>
            obtain ⟨x, hx, rfl, HF, HM, HO⟩ := hrel
            have g1 : (0 : Int) ≤ x := by omega
            by_cases hx2 : x < 5
            · have g2 : (x : Int) < 5 := by omega
              go_wp2_with fail
              go_loopw [16] (fun i wr => ∃ y : Nat, y ≤ 5 ∧ i = .int .i64 y ∧ Hid (Frm w b0 A r wr) ∧ Hid (Lanes 25 wr bb B) ∧ Hid (Lanes 25 wr ob (chiR B (5 * x + y)))) (fun i _ => 5 - (intOf i).toNat)
              case atStart => exact ⟨0, by omega, rfl, HF, HM, HO⟩
              case round =>
                obtain ⟨y, hy, rfl, HF, HM, HO⟩ := hrel
                have g3 : (0 : Int) ≤ y := by omega
                by_cases hy2 : y < 5
                · have g4 : (y : Int) < 5 := by omega
                  have hnx := chi_next B x y hy2
                  obtain ⟨M, hM⟩ : ∃ M, chiR B (5 * x + y) = M := ⟨_, rfl⟩
                  obtain ⟨x1, hx1⟩ : ∃ q, x + 1 = q := ⟨_, rfl⟩
                  obtain ⟨x2, hx2'⟩ : ∃ q, x + 2 = q := ⟨_, rfl⟩
                  obtain ⟨p, hp⟩ : ∃ p, atR x y = p := ⟨_, rfl⟩
                  obtain ⟨p1, hp1⟩ : ∃ p, atR x1 y = p := ⟨_, rfl⟩
                  obtain ⟨p2, hp2⟩ : ∃ p, atR x2 y = p := ⟨_, rfl⟩
                  have k0 := atR_lt x y
                  have k1 := atR_lt x1 y
                  have k2 := atR_lt x2 y
                  rw [hM, hx1, hx2', hp, hp1, hp2] at hnx
                  rw [hp] at k0
                  rw [hp1] at k1
                  rw [hp2] at k2
                  rw [hM] at HO
                  have e1 : (x : Int) + 1 = (x1 : Int) := by omega
                  have e2 : (x : Int) + 2 = (x2 : Int) := by omega
                  have e3 : IntKind.i64.wrap (x1 : Int) = (x1 : Int) := by rw [IntKind.wrap_i64]; omega
                  have e4 : IntKind.i64.wrap (x2 : Int) = (x2 : Int) := by rw [IntKind.wrap_i64]; omega
                  have f1 : (0 : Int) ≤ p := by omega
                  have f2 : (p : Int) < 25 := by omega
                  have f3 : (0 : Int) ≤ p1 := by omega
                  have f4 : (p1 : Int) < 25 := by omega
                  have f5 : (0 : Int) ≤ p2 := by omega
                  have f6 : (p2 : Int) < 25 := by omega
                  have HS0 : Frm w b0 A r wr.drew ∧ Lanes 25 wr.drew bb B ∧ Lanes 25 wr.drew ob M := ⟨HF.out.drew, HM.out.kept rfl, HO.out.kept rfl⟩
                  have HSF := Lib.hid HS0
                  have HNX := Lib.hid hnx
                  have HX := Lib.hid (show x1 < 100 ∧ x2 < 100 by omega)
                  have HP := Lib.hid hp
                  have HP1 := Lib.hid hp1
                  have HP2 := Lib.hid hp2
                  have HK0 := Lib.hid k0
                  have HK1 := Lib.hid k1
                  have HK2 := Lib.hid k2
                  clear hnx hM hp hp1 hp2 k0 k1 k2 HF HM HO HS0 hx1 hx2'
                  go_wp2_with fail
                  refine wp_region_L (fun Ls w' => Ls.getD 24 true = false → Frm w b0 A r w' ∧ Lanes 25 w' bb B ∧ Lanes 25 w' ob M) (by kernel_rfl) ?_
                  refine wpAnyL_take (i := 0) (v := ?_) (fuel := 24) rfl (by kernel_rfl) (by kernel_rfl) (by kernel_rfl) (by kernel_rfl) (fun _ _ _ h => h) (fun Ls w' => by rw [getD_set_ne true (by omega)]) (fun _ => HSF.out) (.inl ⟨by rfl, ?_⟩) ?_
                  rotate_left 1
                  · rintro w' ⟨Ls, hcl, h0, hS⟩
                    clear hS hcl h0
                    go_simp <;> with_reducible rfl
                  try simp only [Act.put, zq1, zq2, zq4, zq5, zq6]
                  refine wpAnyL_take (i := 1) (v := ?_) (fuel := 23) rfl (by kernel_rfl) (by kernel_rfl) (by kernel_rfl) (by kernel_rfl) (fun _ _ _ h => h) (fun Ls w' => by rw [getD_set_ne true (by omega)]) (fun _ => HSF.out) (.inl ⟨by rfl, ?_⟩) ?_
                  rotate_left 1
                  · rintro w' ⟨Ls, hcl, h0, hS⟩
                    clear hS hcl h0
                    go_simp <;> with_reducible rfl
                  try simp only [Act.put, zq1, zq2, zq3, zq4, zq5, zq6]
                  refine wpAnyL_take (i := 3) (v := ?_) (fuel := 22) rfl (by kernel_rfl) (by kernel_rfl) (by kernel_rfl) (by kernel_rfl) (fun _ _ _ h => h) (fun Ls w' => by rw [getD_set_ne true (by omega)]) (fun _ => HSF.out) (.inl ⟨by rfl, ?_⟩) ?_
                  rotate_left 1
                  · rintro w' ⟨Ls, hcl, h0, hS⟩
                    clear hS hcl h0
                    go_simp <;> with_reducible rfl
                  try simp only [Act.put, zq1, zq2, zq3, zq4, zq5, zq6]
                  refine wpAnyL_take (i := 4) (v := ?_) (fuel := 21) rfl (by kernel_rfl) (by kernel_rfl) (by kernel_rfl) (by kernel_rfl) (fun _ _ _ h => h) (fun Ls w' => by rw [getD_set_ne true (by omega)]) (fun _ => HSF.out) (.inl ⟨by rfl, ?_⟩) ?_
                  rotate_left 1
                  · rintro w' ⟨Ls, hcl, h0, hS⟩
                    clear hS hcl h0
                    go_simp <;> with_reducible rfl
                  try simp only [Act.put, zq1, zq2, zq3, zq4, zq5, zq6]
                  refine wpAnyL_take (i := 8) (v := ?_) (fuel := 20) rfl (by kernel_rfl) (by kernel_rfl) (by kernel_rfl) (by kernel_rfl) (fun _ _ _ h => h) (fun Ls w' => by rw [getD_set_ne true (by omega)]) (fun _ => HSF.out) (.inl ⟨by rfl, ?_⟩) ?_
                  rotate_left 1
                  · rintro w' ⟨Ls, hcl, h0, hS⟩
                    clear hS hcl h0
                    go_simp <;> with_reducible rfl
                  try simp only [Act.put, zq1, zq2, zq3, zq4, zq5, zq6]
                  refine wpAnyL_take (i := 9) (v := ?_) (fuel := 19) rfl (by kernel_rfl) (by kernel_rfl) (by kernel_rfl) (by kernel_rfl) (fun _ _ _ h => h) (fun Ls w' => by rw [getD_set_ne true (by omega)]) (fun _ => HSF.out) (.inl ⟨by rfl, ?_⟩) ?_
                  rotate_left 1
                  · rintro w' ⟨Ls, hcl, h0, hS⟩
                    clear hS hcl h0
                    go_simp <;> with_reducible rfl
                  try simp only [Act.put, zq1, zq2, zq3, zq4, zq5, zq6]
                  refine wpAnyL_take (i := 10) (v := ?_) (fuel := 18) rfl (by kernel_rfl) (by kernel_rfl) (by kernel_rfl) (by kernel_rfl) (fun _ _ _ h => h) (fun Ls w' => by rw [getD_set_ne true (by omega)]) (fun _ => HSF.out) (.inl ⟨by rfl, ?_⟩) ?_
                  rotate_left 1
                  · rintro w' ⟨Ls, hcl, h0, hS⟩
                    clear hS hcl h0
                    go_simp <;> with_reducible rfl
                  try simp only [Act.put, zq1, zq2, zq3, zq4, zq5, zq6]
                  refine wpAnyL_take (i := 15) (v := ?_) (fuel := 17) rfl (by kernel_rfl) (by kernel_rfl) (by kernel_rfl) (by kernel_rfl) (fun _ _ _ h => h) (fun Ls w' => by rw [getD_set_ne true (by omega)]) (fun _ => HSF.out) (.inl ⟨by rfl, ?_⟩) ?_
                  rotate_left 1
                  · rintro w' ⟨Ls, hcl, h0, hS⟩
                    clear hS hcl h0
                    go_simp <;> with_reducible rfl
                  try simp only [Act.put, zq1, zq2, zq3, zq4, zq5, zq6]
                  refine wpAnyL_take (i := 16) (v := ?_) (fuel := 16) rfl (by kernel_rfl) (by kernel_rfl) (by kernel_rfl) (by kernel_rfl) (fun _ _ _ h => h) (fun Ls w' => by rw [getD_set_ne true (by omega)]) (fun _ => HSF.out) (.inl ⟨by rfl, ?_⟩) ?_
                  rotate_left 1
                  · rintro w' ⟨Ls, hcl, h0, hS⟩
                    clear hS hcl h0
                    go_simp <;> with_reducible rfl
                  try simp only [Act.put, zq1, zq2, zq3, zq4, zq5, zq6]
                  refine wpAnyL_take (i := 17) (v := ?_) (fuel := 15) rfl (by kernel_rfl) (by kernel_rfl) (by kernel_rfl) (by kernel_rfl) (fun _ _ _ h => h) (fun Ls w' => by rw [getD_set_ne true (by omega)]) (fun _ => HSF.out) (.inl ⟨by rfl, ?_⟩) ?_
                  rotate_left 1
                  · rintro w' ⟨Ls, hcl, h0, hS⟩
                    clear hS hcl h0
                    go_simp <;> with_reducible rfl
                  try simp only [Act.put, zq1, zq2, zq3, zq4, zq5, zq6]
                  refine wpAnyL_one (i := 2) (fuel := 14) (by kernel_rfl) rfl (fun K hK => ?_)
                  go_simp
                  go_at_call 113
                  refine (at_any x y (by have := HX.out; omega) (by omega) _).mono ?_
                  rintro e w2 ⟨rfl, rfl⟩
                  rw [HP.out]
                  refine hK.out _ _ (fun h => HSF.out) (fun _ => ?_)
                  clear hK K
                  try simp only [Act.put, zq1, zq2, zq3, zq4, zq5, zq6]
                  refine wpAnyL_one (i := 5) (fuel := 13) (by kernel_rfl) rfl (fun K hK => ?_)
                  go_simp
                  go_at_call 113
                  refine (at_any x y (by have := HX.out; omega) (by omega) _).mono ?_
                  rintro e w2 ⟨rfl, rfl⟩
                  rw [HP.out]
                  refine hK.out _ _ (fun h => HSF.out) (fun _ => ?_)
                  clear hK K
                  try simp only [Act.put, zq1, zq2, zq3, zq4, zq5, zq6]
                  refine wpAnyL_take (i := 6) (v := ?_) (fuel := 12) rfl (by kernel_rfl) (by kernel_rfl) (by kernel_rfl) (by kernel_rfl) (fun _ _ _ h => h) (fun Ls w' => by rw [getD_set_ne true (by omega)]) (fun _ => HSF.out) (.inl ⟨by rfl, ?_⟩) ?_
                  rotate_left 1
                  · rintro w' ⟨Ls, hcl, h0, hS⟩
                    clear hS hcl h0
                    go_simp <;> with_reducible rfl
                  try simp only [Act.put, zq1, zq2, zq3, zq4, zq5, zq6]
                  refine wpAnyL_take (i := 7) (v := ?_) (fuel := 11) rfl (by kernel_rfl) (by kernel_rfl) (by kernel_rfl) (by kernel_rfl) (fun _ _ _ h => h) (fun Ls w' => by rw [getD_set_ne true (by omega)]) (fun _ => HSF.out) (.inl ⟨by rfl, ?_⟩) ?_
                  rotate_left 1
                  · rintro w' ⟨Ls, hcl, h0, hS⟩
                    have hSw := hS (closedB_before hcl (i := 7) (by kernel_rfl) h0)
                    have z0 := Lanes.cell hSw.2.1 HK0.out
                    have z1 := Lanes.cell hSw.2.1 HK1.out
                    have z2 := Lanes.cell hSw.2.1 HK2.out
                    clear hS hcl h0
                    go_simp <;> with_reducible rfl
                  try simp only [Act.put, zq1, zq2, zq3, zq4, zq5, zq6]
                  refine wpAnyL_one (i := 11) (fuel := 10) (by kernel_rfl) rfl (fun K hK => ?_)
                  go_simp
                  go_at_call 113
                  refine (at_any x1 y (by have := HX.out; omega) (by omega) _).mono ?_
                  rintro e w2 ⟨rfl, rfl⟩
                  rw [HP1.out]
                  refine hK.out _ _ (fun h => HSF.out) (fun _ => ?_)
                  clear hK K
                  try simp only [Act.put, zq1, zq2, zq3, zq4, zq5, zq6]
                  refine wpAnyL_take (i := 12) (v := ?_) (fuel := 9) rfl (by kernel_rfl) (by kernel_rfl) (by kernel_rfl) (by kernel_rfl) (fun _ _ _ h => h) (fun Ls w' => by rw [getD_set_ne true (by omega)]) (fun _ => HSF.out) (.inl ⟨by rfl, ?_⟩) ?_
                  rotate_left 1
                  · rintro w' ⟨Ls, hcl, h0, hS⟩
                    clear hS hcl h0
                    go_simp <;> with_reducible rfl
                  try simp only [Act.put, zq1, zq2, zq3, zq4, zq5, zq6]
                  refine wpAnyL_take (i := 13) (v := ?_) (fuel := 8) rfl (by kernel_rfl) (by kernel_rfl) (by kernel_rfl) (by kernel_rfl) (fun _ _ _ h => h) (fun Ls w' => by rw [getD_set_ne true (by omega)]) (fun _ => HSF.out) (.inl ⟨by rfl, ?_⟩) ?_
                  rotate_left 1
                  · rintro w' ⟨Ls, hcl, h0, hS⟩
                    have hSw := hS (closedB_before hcl (i := 13) (by kernel_rfl) h0)
                    have z0 := Lanes.cell hSw.2.1 HK0.out
                    have z1 := Lanes.cell hSw.2.1 HK1.out
                    have z2 := Lanes.cell hSw.2.1 HK2.out
                    clear hS hcl h0
                    go_simp <;> with_reducible rfl
                  try simp only [Act.put, zq1, zq2, zq3, zq4, zq5, zq6]
                  refine wpAnyL_take (i := 14) (v := ?_) (fuel := 7) rfl (by kernel_rfl) (by kernel_rfl) (by kernel_rfl) (by kernel_rfl) (fun _ _ _ h => h) (fun Ls w' => by rw [getD_set_ne true (by omega)]) (fun _ => HSF.out) (.inl ⟨by rfl, ?_⟩) ?_
                  rotate_left 1
                  · rintro w' ⟨Ls, hcl, h0, hS⟩
                    clear hS hcl h0
                    go_simp <;> with_reducible rfl
                  try simp only [Act.put, zq1, zq2, zq3, zq4, zq5, zq6]
                  refine wpAnyL_one (i := 18) (fuel := 6) (by kernel_rfl) rfl (fun K hK => ?_)
                  go_simp
                  go_at_call 113
                  refine (at_any x2 y (by have := HX.out; omega) (by omega) _).mono ?_
                  rintro e w2 ⟨rfl, rfl⟩
                  rw [HP2.out]
                  refine hK.out _ _ (fun h => HSF.out) (fun _ => ?_)
                  clear hK K
                  try simp only [Act.put, zq1, zq2, zq3, zq4, zq5, zq6]
                  refine wpAnyL_take (i := 19) (v := ?_) (fuel := 5) rfl (by kernel_rfl) (by kernel_rfl) (by kernel_rfl) (by kernel_rfl) (fun _ _ _ h => h) (fun Ls w' => by rw [getD_set_ne true (by omega)]) (fun _ => HSF.out) (.inl ⟨by rfl, ?_⟩) ?_
                  rotate_left 1
                  · rintro w' ⟨Ls, hcl, h0, hS⟩
                    clear hS hcl h0
                    go_simp <;> with_reducible rfl
                  try simp only [Act.put, zq1, zq2, zq3, zq4, zq5, zq6]
                  refine wpAnyL_take (i := 20) (v := ?_) (fuel := 4) rfl (by kernel_rfl) (by kernel_rfl) (by kernel_rfl) (by kernel_rfl) (fun _ _ _ h => h) (fun Ls w' => by rw [getD_set_ne true (by omega)]) (fun _ => HSF.out) (.inl ⟨by rfl, ?_⟩) ?_
                  rotate_left 1
                  · rintro w' ⟨Ls, hcl, h0, hS⟩
                    have hSw := hS (closedB_before hcl (i := 20) (by kernel_rfl) h0)
                    have z0 := Lanes.cell hSw.2.1 HK0.out
                    have z1 := Lanes.cell hSw.2.1 HK1.out
                    have z2 := Lanes.cell hSw.2.1 HK2.out
                    clear hS hcl h0
                    go_simp <;> with_reducible rfl
                  try simp only [Act.put, zq1, zq2, zq3, zq4, zq5, zq6]
                  refine wpAnyL_take (i := 21) (v := ?_) (fuel := 3) rfl (by kernel_rfl) (by kernel_rfl) (by kernel_rfl) (by kernel_rfl) (fun _ _ _ h => h) (fun Ls w' => by rw [getD_set_ne true (by omega)]) (fun _ => HSF.out) (.inl ⟨by rfl, ?_⟩) ?_
                  rotate_left 1
                  · rintro w' ⟨Ls, hcl, h0, hS⟩
                    clear hS hcl h0
                    go_simp <;> with_reducible rfl
                  try simp only [Act.put, zq1, zq2, zq3, zq4, zq5, zq6]
                  refine wpAnyL_take (i := 22) (v := ?_) (fuel := 2) rfl (by kernel_rfl) (by kernel_rfl) (by kernel_rfl) (by kernel_rfl) (fun _ _ _ h => h) (fun Ls w' => by rw [getD_set_ne true (by omega)]) (fun _ => HSF.out) (.inl ⟨by rfl, ?_⟩) ?_
                  rotate_left 1
                  · rintro w' ⟨Ls, hcl, h0, hS⟩
                    clear hS hcl h0
                    go_simp <;> with_reducible rfl
                  try simp only [Act.put, zq1, zq2, zq3, zq4, zq5, zq6]
                  refine wpAnyL_take (i := 23) (v := ?_) (fuel := 1) rfl (by kernel_rfl) (by kernel_rfl) (by kernel_rfl) (by kernel_rfl) (fun _ _ _ h => h) (fun Ls w' => by rw [getD_set_ne true (by omega)]) (fun _ => HSF.out) (.inl ⟨by rfl, ?_⟩) ?_
                  rotate_left 1
                  · rintro w' ⟨Ls, hcl, h0, hS⟩
                    clear hS hcl h0
                    go_simp <;> with_reducible rfl
                  try simp only [Act.put, zq1, zq2, zq3, zq4, zq5, zq6]
                  have y1 := Lanes.cell HSF.out.2.2 HK0.out
                  have y2 := Lanes.frozen HSF.out.2.2 p
                  have y3 := HSF.out.2.2.lt
                  refine wpAnyL_one (i := 24) (fuel := 0) (by kernel_rfl) rfl (fun K hK => ?_)
                  go_simp
                  refine hK.out _ _ (fun h => (by cases h)) (fun _ => ?_)
                  clear hK K
                  try simp only [Act.put, zq1, zq2, zq3, zq4, zq5, zq6]
                  refine wpAnyL_done (by kernel_rfl) ?_ 0
                  clear e1 e2 e3 e4 f1 f2 f3 f4 f5 f6 y1 y2 y3
                  go_wp2
                  go_roundw
                  case rel =>
                    refine ⟨y + 1, by omega, by rw [Int.natCast_add]; rfl, Lib.hid (HSF.out.1.set (by omega) _), Lib.hid (HSF.out.2.1.setOther (by omega) _), Lib.hid ?_⟩
                    show Lanes 25 _ _ (chiR B (5 * x + y + 1))
                    rw [HNX.out]
                    exact HSF.out.2.2.set HK0.out _
                  case measure => simp [intOf]; omega
                · have g4 : ¬ ((y : Int) < 5) := by omega
                  have hy5 : y = 5 := by omega
                  rw [hy5] at HO
                  clear hy5
                  go_wp2
                  go_roundw
                  case rel => exact ⟨x + 1, by omega, by rw [Int.natCast_add]; rfl, HF, HM, HO⟩
                  case measure => simp [intOf]; omega
            · have g2 : ¬ ((x : Int) < 5) := by omega
              have hx5 : x = 5 := by omega
              rw [hx5] at HO
              clear hx5 hx hx2
              obtain ⟨T, hT⟩ : ∃ T, chiR B 25 = T := ⟨_, rfl⟩
              have HO := Lib.hid (show Lanes 25 wr ob T from hT ▸ HO.out)
              have HTE := Lib.hid hT
              obtain ⟨kc, hkc⟩ : ∃ k, (constR i (7 * i + 7)).2 = k := ⟨_, rfl⟩
              have HKC := Lib.hid hkc
              have HS0 : Frm w b0 A r wr.drew ∧ Lanes 25 wr.drew ob T := ⟨HF.out.drew, HO.out.kept rfl⟩
              have HSF := Lib.hid HS0
              clear hT hkc HS0 HF HM HO
              go_wp2_with fail
              clear g1 g2
              refine wp_region_L (fun Ls w' => Ls.getD 6 true = false → Frm w b0 A r w' ∧ Lanes 25 w' ob T) (by kernel_rfl) ?_
              refine wpAnyL_take (i := 0) (v := ?_) (fuel := 6) rfl (by kernel_rfl) (by kernel_rfl) (by kernel_rfl) (by kernel_rfl) (fun _ _ _ h => h) (fun Ls w' => by rw [getD_set_ne true (by omega)]) (fun _ => HSF.out) (.inl ⟨by rfl, ?_⟩) ?_
              rotate_left 1
              · rintro w' ⟨Ls, hcl, h0, hS⟩
                clear hS hcl h0
                go_simp <;> with_reducible rfl
              try simp only [Act.put, zq1, zq2, zq4, zq5, zq6]
              refine wpAnyL_take (i := 1) (v := ?_) (fuel := 5) rfl (by kernel_rfl) (by kernel_rfl) (by kernel_rfl) (by kernel_rfl) (fun _ _ _ h => h) (fun Ls w' => by rw [getD_set_ne true (by omega)]) (fun _ => HSF.out) (.inl ⟨by rfl, ?_⟩) ?_
              rotate_left 1
              · rintro w' ⟨Ls, hcl, h0, hS⟩
                have hSw := hS (closedB_before hcl (i := 1) (by kernel_rfl) h0)
                have z0 := Lanes.cell hSw.2 (show 0 < 25 by decide)
                clear hS hcl h0
                go_simp <;> with_reducible rfl
              try simp only [Act.put, zq1, zq2, zq3, zq4, zq5, zq6]
              refine wpAnyL_take (i := 2) (v := ?_) (fuel := 4) rfl (by kernel_rfl) (by kernel_rfl) (by kernel_rfl) (by kernel_rfl) (fun _ _ _ h => h) (fun Ls w' => by rw [getD_set_ne true (by omega)]) (fun _ => HSF.out) (.inl ⟨by rfl, ?_⟩) ?_
              rotate_left 1
              · rintro w' ⟨Ls, hcl, h0, hS⟩
                clear hS hcl h0
                go_simp <;> with_reducible rfl
              try simp only [Act.put, zq1, zq2, zq3, zq4, zq5, zq6]
              refine wpAnyL_one (i := 3) (fuel := 3) (by kernel_rfl) rfl (fun K hK => ?_)
              go_simp
              go_at_call 115
              refine (constant_any i HI.out _).mono ?_
              rintro e w2 ⟨rfl, rfl⟩
              rw [HKC.out]
              refine hK.out _ _ (fun h => HSF.out) (fun _ => ?_)
              clear hK K
              try simp only [Act.put, zq1, zq2, zq3, zq4, zq5, zq6]
              refine wpAnyL_take (i := 4) (v := ?_) (fuel := 2) rfl (by kernel_rfl) (by kernel_rfl) (by kernel_rfl) (by kernel_rfl) (fun _ _ _ h => h) (fun Ls w' => by rw [getD_set_ne true (by omega)]) (fun _ => HSF.out) (.inl ⟨by rfl, ?_⟩) ?_
              rotate_left 1
              · rintro w' ⟨Ls, hcl, h0, hS⟩
                clear hS hcl h0
                go_simp <;> with_reducible rfl
              try simp only [Act.put, zq1, zq2, zq3, zq4, zq5, zq6]
              refine wpAnyL_take (i := 5) (v := ?_) (fuel := 1) rfl (by kernel_rfl) (by kernel_rfl) (by kernel_rfl) (by kernel_rfl) (fun _ _ _ h => h) (fun Ls w' => by rw [getD_set_ne true (by omega)]) (fun _ => HSF.out) (.inl ⟨by rfl, ?_⟩) ?_
              rotate_left 1
              · rintro w' ⟨Ls, hcl, h0, hS⟩
                clear hS hcl h0
                go_simp <;> with_reducible rfl
              try simp only [Act.put, zq1, zq2, zq3, zq4, zq5, zq6]
              have y1 := Lanes.cell HSF.out.2 (show 0 < 25 by decide)
              have y2 := Lanes.frozen HSF.out.2 0
              have y3 := HSF.out.2.lt
              refine wpAnyL_one (i := 6) (fuel := 0) (by kernel_rfl) rfl (fun K hK => ?_)
              go_simp
              refine hK.out _ _ (fun h => (by cases h)) (fun _ => ?_)
              clear hK K
              try simp only [Act.put, zq1, zq2, zq3, zq4, zq5, zq6]
              refine wpAnyL_done (by kernel_rfl) ?_ 0
              have K5 : Hid (Frm w b0 A r (wr.setCell ⟨ob, 0, none⟩ (.int .u64 (lv (T 0 ^^^ kc)))).drew ∧ Lanes 25 (wr.setCell ⟨ob, 0, none⟩ (.int .u64 (lv (T 0 ^^^ kc)))).drew ob (upd T 0 (T 0 ^^^ kc))) := Lib.hid ⟨HSF.out.1.set (q := ob) (i := 0) (by omega) (.int .u64 (lv (T 0 ^^^ kc))), HSF.out.2.set (show 0 < 25 by decide) (T 0 ^^^ kc)⟩
              obtain ⟨w9, hw9⟩ : ∃ W, (wr.setCell ⟨ob, 0, none⟩ (.int .u64 (lv (T 0 ^^^ kc)))).drew = W := ⟨_, rfl⟩
              clear HSF
              rw [hw9] at K5 ⊢
              clear y1 y2 y3 hw9
              have hG : roundG A i r = upd T 0 (T 0 ^^^ kc) := by
                unfold roundG
                rw [HCE.out, HBE.out, HTE.out, HKC.out]
              obtain ⟨G, hGG⟩ : ∃ G, upd T 0 (T 0 ^^^ kc) = G := ⟨_, rfl⟩
              rw [hGG] at K5 hG
              have HG := Lib.hid hG
              clear hG hGG
              go_wp2_with (first | ((with_reducible refine load_gateK 163 ?_); refine wpList_load_mid rfl 163 _ rfl ob 0 rfl (lanV G) _ K5.out.2.row25 Tryz.underlying163 rfl (by rw [lanV_len]; exact infoLan) ?_) | ((with_reducible refine store_gateK 163 ?_); refine wpList_store_mid rfl 163 _ _ rfl (b0 + 2) 0 (lanV G).toArray rfl rfl (K5.out.1.lz.there _) (by rw [List.size_toArray, lanV_len]; exact infoLan) (lanV_one _) ?_))
              refine bodyPost_ret (v := .agg (lanV G).toArray) (results_cellK rfl _ _ (b0 + 2) (lanV G) _ (by rfl) (K5.out.1.lz.laid _).row25 Tryz.underlying163 rfl (by rw [lanV_len]; exact infoLan)) rfl ⟨by rw [HG.out], ?_⟩
              rw [hb0]
              exact K5.out.1.bel.trans (sets_belowK (B := b0) (b := b0 + 2) (by omega) (lanV G) 0 w9)
end Go.Proofs.YtlelgbmbmajfmaaGreatDoor
/- The reference's Keccak: Sum. -/
namespace Go.Proofs.YtlelgbmbmajfmaaGreatDoor
open Go.RowKit Go.Shelf Go.Lib
attribute [local go_sem] Oper.semAt_some lv_and lv_or lv_xor lv_not lv_notM
theorem turns_lt64 : ∀ j, j < 25 → (turnsR 24).2.2 j < 64 := by
  intro j h
  rw [turn_at j h]
  revert j
  decide
set_option maxRecDepth 100000 in
set_option maxHeartbeats 12800000 in
theorem rkSum_any (sb : ByteArray) (w : World) (hlen : sb.size ≤ 1099511627776) :
    Calls Tryz.prog 65 #[.string sb] w fun e w' => e = .returned (.string ⟨(keccakL sb.data.toList).toArray⟩) ∧ Below w.heap.size w w' := by
  obtain ⟨s, hs⟩ : ∃ s, sb.data.toList = s := ⟨_, rfl⟩
  have hsl : s.length = sb.size := by rw [← hs]; rfl
  rw [hs]
  have HS := Lib.hid hs
  clear hs
  go_enter Tryz.func65, Tryz.ntmps65
  go_wp2_with ((with_reducible refine conv_gate 9 55 ?_); refine wpList_bytesOf rfl 9 55 _ rfl 5 Tryz.underlying9 Tryz.underlying55 Tryz.underlying5 sb rfl ?_; intro v0 w1 ho0 hgr; have HO0 := Lib.hid ho0; have HGR := Lib.hid hgr; have HOS := Lib.hid (show OwnC w.heap.size w1 v0 s from HS.out ▸ ho0); clear ho0 hgr; go_wp2_with (at_builtin; refine wpList_appendC rfl _ _ 55 rfl w.heap.size 5 Tryz.underlying55 infoByteK _ s rfl (HOS.out.alloc _) ⟨w1.heap.size, 0, none⟩ 1 1 [1] rfl rfl ?c0 ?c1 ?c2 ?_))
  case c0 => exact cells_new_at rfl [.int .u8 1] _
  case c1 => simp; omega
  case c2 => have := HGR.out.size; simp; omega
  intro v2 w2 ho2 hg2
  have hb1 : Below w.heap.size w w1 := (Below.refl _ _).grown HGR.out (Nat.le_refl _) (fun r e => by cases e)
  have HOW := HOS.out.lt
  have hb2 : Below w.heap.size w w2 := (hb1.alloc hb1.size _).grown hg2 (by have := hb1.size; simp; omega) (fun r e => (HOW r e).1)
  obtain ⟨zm, hzm⟩ : ∃ z, (136 - (s.length + 1) % 136) % 136 = z := ⟨_, rfl⟩
  have HZM := Lib.hid hzm
  have HO2 := Lib.hid (show OwnC w.heap.size w2 v2 (s ++ 1 :: List.replicate 0 0) from ho2)
  have HB2 := Lib.hid hb2
  clear ho2 hg2 hb1 hb2 HOW HOS HO0 HGR hzm
  go_wp2_with fail
  go_loopw [3] (fun b wr => ∃ z : Nat, z ≤ zm ∧ Hid (OwnC w.heap.size wr b (s ++ 1 :: List.replicate z 0)) ∧ Hid (Below w.heap.size w wr)) (fun b _ => s.length + 1 + zm - lenOf b)
  case atStart => exact ⟨0, by omega, HO2, HB2⟩
  case round =>
    obtain ⟨z, hz, HO, HB⟩ := hrel
    obtain ⟨pb, cb, rfl⟩ := HO.out.form
    have hLz : (s ++ 1 :: List.replicate z 0).length = s.length + 1 + z := by rw [List.length_append, List.length_cons, List.length_replicate]; omega
    have hzm2 : zm < 136 := by have := HZM.out; omega
    obtain ⟨L, hL⟩ : ∃ L, (s ++ 1 :: List.replicate z 0).length = L := ⟨_, rfl⟩
    rw [hL] at hLz HO ⊢
    have HL := Lib.hid hL
    have HLZ := Lib.hid hLz
    obtain ⟨q, hq⟩ : ∃ q, L % 136 = q := ⟨_, rfl⟩
    have e1 : (L : Int).tmod 136 = (q : Int) := by rw [← hq, Int.tmod_eq_emod_of_nonneg (by omega)]; omega
    by_cases hq0 : q = 0
    · have g3 : (q : Int) = 0 := by omega
      have hzz : z = zm := by have := HZM.out; omega
      have hkz : s ++ 1 :: List.replicate z 0 = kzeros s := by
        refine kzeros_rep s z (by omega) (by omega)
      have hrow : ∃ g, pb = some ⟨g, 0, none⟩ ∧ w.heap.size ≤ g ∧ g < wr.heap.size ∧ L ≤ cb ∧ At8 wr g (fun j => (kzeros s).getD j 0) L := by
        have h := HO.out
        rw [hkz] at h
        rcases h with ⟨h1, h2⟩ | ⟨g, cap, h1, h2, h3, h4, h5, h6⟩
        · cases h1; omega
        · cases h1
          refine ⟨g, rfl, h2, h3, by omega, fun j hj => ⟨?_, (h6 j (by omega)).2⟩⟩
          refine h5 j _ ?_
          have hj2 : j < (kzeros s).length := by rw [← hkz]; omega
          simp only [Lib.byteCells, List.getElem?_map, List.getD_eq_getElem?_getD, List.getElem?_eq_getElem hj2]
          rfl
      obtain ⟨g, rfl, hg0, hg1, hcap, h8⟩ := hrow
      have hKL : (kzeros s).length = L := by rw [← hkz]; exact hL
      have hL1 : 1 ≤ L := by omega
      have hL2 : L ≤ 1099511627776 + 137 := by omega
      have HKL := Lib.hid hKL
      obtain ⟨K, hKz⟩ : ∃ K, kzeros s = K := ⟨_, rfl⟩
      rw [hKz] at h8 hKL
      have HKZ := Lib.hid hKz
      have HQ0 := Lib.hid (show L % 136 = 0 from by omega)
      have hwm : IntKind.i64.wrap ((L : Int) - 1) = ((L - 1 : Nat) : Int) := by rw [IntKind.wrap_i64]; omega
      obtain ⟨m, hm⟩ : ∃ m, L - 1 = m := ⟨_, rfl⟩
      rw [hm] at hwm
      have hmL : m < L := by omega
      have i0 : (0 : Int) ≤ m := by omega
      have i1 : (m : Int) < L := by omega
      have i2 : (1 : Int) ≤ L := by omega
      have y1 := (h8 m hmL).1
      have y2 := (h8 m hmL).2
      obtain ⟨x, hx⟩ : ∃ x, K.getD m 0 = x := ⟨_, rfl⟩
      dsimp only at y1
      rw [hx] at y1
      obtain ⟨y, hy⟩ : ∃ y, x ^^^ 128 = y := ⟨_, rfl⟩
      have hxo : bits .xor .u8 (x.toNat : Int) 128 = (y.toNat : Int) := by
        rw [← hy]
        exact bv8_xor x 128
      have hP8 : At8 (wr.setCell ⟨g, m, none⟩ (.int .u8 (y.toNat : Int))) g (fun j => (kpad s).getD j 0) L := by
        have h := At8.set h8 hmL y
        refine fun j hj => ⟨?_, (h j hj).2⟩
        have h' := (h j hj).1
        rw [h']
        show some (Value.int .u8 (((if j = m then y else K.getD j 0).toNat : Nat) : Int)) = _
        have hkp : (kpad s).getD j 0 = if j = m then y else K.getD j 0 := by
          unfold kpad klast
          rw [hKz, hKL, hm, hx, List.getD_eq_getElem?_getD, List.getElem?_set]
          by_cases hjm : m = j
          · subst hjm
            rw [if_pos rfl, if_pos (by omega), if_pos rfl, ← hy]
            rfl
          · rw [if_neg hjm, if_neg (fun e => hjm e.symm), List.getD_eq_getElem?_getD]
        show _ = some (Value.int .u8 ((((kpad s).getD j 0).toNat : Nat) : Int))
        rw [hkp]
      have HP8 := Lib.hid hP8
      have HX := Lib.hid hx
      have HM := Lib.hid hm
      have HML := Lib.hid hmL
      have H8 := Lib.hid h8
      have HG0 := Lib.hid hg0
      have HCAP := Lib.hid hcap
      have HLE := Lib.hid (show L % 136 = 0 ∧ 136 ≤ L from ⟨by omega, by omega⟩)
      have HPL := Lib.hid (show (kpad s).length = L from by rw [kpad_length, HKL.out])
      have HL2 := Lib.hid hL2
      clear hL hLz hz hzm2 hq hq0 hzz hkz HO hKL hKz h8 hx hm hmL hg0 hy hP8
      go_wp2_with fail
      obtain ⟨wm, hwm2⟩ : ∃ W, wr.setCell ⟨g, m, none⟩ (.int .u8 (y.toNat : Int)) = W := ⟨_, rfl⟩
      have hbm : Below w.heap.size w wm := by rw [← hwm2]; exact HB.out.setCell (p := ⟨g, m, none⟩) HG0.out _
      have hpm : At8 wm g (fun j => (kpad s).getD j 0) L := by rw [← hwm2]; exact HP8.out
      have hgm : g < wm.heap.size := by rw [← hwm2, World.size_setCell]; exact hg1
      rw [hwm2]
      refine (turns_any _).mono ?_
      rintro e w5 ⟨rfl, hb5⟩
      have hbw5 : Below w.heap.size w w5 := hbm.trans (hb5.mono hbm.size)
      have hp5 : At8 w5 g (fun j => (kpad s).getD j 0) L := hpm.of_block (hb5.block g hgm)
      have hg5 : g < w5.heap.size := Nat.lt_of_lt_of_le hgm hb5.size
      obtain ⟨rb, hrb⟩ : ∃ b, w5.heap.size = b := ⟨_, rfl⟩
      obtain ⟨w6, hw6⟩ : ∃ W, w5.alloc (.cells (List.replicate 25 (Value.int .i64 0)).toArray 161) = W := ⟨_, rfl⟩
      have hn6 := nums_zero 25 w5 161
      rw [hw6, hrb] at hn6
      have HN6 := Lib.hid hn6
      have HW6 : Hid (w5.alloc (.cells #[.int .i64 0, .int .i64 0, .int .i64 0, .int .i64 0, .int .i64 0, .int .i64 0, .int .i64 0, .int .i64 0, .int .i64 0, .int .i64 0, .int .i64 0, .int .i64 0, .int .i64 0, .int .i64 0, .int .i64 0, .int .i64 0, .int .i64 0, .int .i64 0, .int .i64 0, .int .i64 0, .int .i64 0, .int .i64 0, .int .i64 0, .int .i64 0, .int .i64 0] 161) = w6) := Lib.hid hw6
      clear hn6
      go_wp2_with (rw [HW6.out]; (with_reducible refine store_gateK 161 ?_); refine wpList_store_mid rfl 161 _ _ rfl rb 0 (numV (turnsR 24).2.2).toArray rfl rfl (HN6.out.there _) (by rw [List.size_toArray, numV_len]; exact infoNum) (numV_one _) ?_)
      obtain ⟨T, hT⟩ : ∃ T, (turnsR 24).2.2 = T := ⟨_, rfl⟩
      have HTL := Lib.hid (show ∀ j, j < 25 → T j < 64 from by rw [← hT]; exact turns_lt64)
      have HTR := Lib.hid (show ∀ a i, roundR a i = roundG a i T from fun a i => by rw [← hT]; rfl)
      rw [hT]
      obtain ⟨w7, hw7⟩ : ∃ W, w6.setCells rb 0 (numV T) = W := ⟨_, rfl⟩
      have hn7 : Nums 25 w7 rb T := by rw [← hw7]; exact HN6.out.laid T
      have hb6 : Below w.heap.size w w6 := by rw [← hw6]; exact hbw5.alloc hbw5.size _
      have hwrb : w.heap.size ≤ rb := by rw [← hrb]; exact hbw5.size
      have hb7 : Below w.heap.size w w7 := by rw [← hw7]; exact hb6.trans (sets_belowK hwrb _ _ _)
      have hgrb : g < rb := by rw [← hrb]; exact hg5
      have hp6 : At8 w6 g (fun j => (kpad s).getD j 0) L := by rw [← hw6]; exact hp5.of_block (Below.heap_alloc _ _ _ hg5)
      have hp7 : At8 w7 g (fun j => (kpad s).getD j 0) L := by rw [← hw7]; exact hp6.of_block (heap_setCells_other _ _ _ _ _ (by omega))
      rw [hw7]
      obtain ⟨ab, hab⟩ : ∃ b, w7.heap.size = b := ⟨_, rfl⟩
      obtain ⟨w8, hw8⟩ : ∃ W, w7.alloc (.cells #[.int .u64 0, .int .u64 0, .int .u64 0, .int .u64 0, .int .u64 0, .int .u64 0, .int .u64 0, .int .u64 0, .int .u64 0, .int .u64 0, .int .u64 0, .int .u64 0, .int .u64 0, .int .u64 0, .int .u64 0, .int .u64 0, .int .u64 0, .int .u64 0, .int .u64 0, .int .u64 0, .int .u64 0, .int .u64 0, .int .u64 0, .int .u64 0, .int .u64 0] 163) = W := ⟨_, rfl⟩
      have la8 : Lanes 25 w8 ab zeroL := by rw [← hw8, ← hab]; exact lanes_zero 25 w7 _
      have hb8 : Below w.heap.size w w8 := by rw [← hw8]; exact hb7.alloc hb7.size _
      have hn8 : Nums 25 w8 rb T := by rw [← hw8]; exact hn7.alloc _
      have hrab : rb < ab := by rw [← hab]; exact hn7.lt
      have hp8 : At8 w8 g (fun j => (kpad s).getD j 0) L := by rw [← hw8]; exact hp7.of_block (Below.heap_alloc _ _ _ (by omega))
      have hwab : w.heap.size ≤ ab := by omega
      have hgab : g < ab := by omega
      rw [hab, hw8]
      obtain ⟨P, hP⟩ : ∃ P, kpad s = P := ⟨_, rfl⟩
      rw [hP] at hp8
      have HPE := Lib.hid hP
      have LA := Lib.hid la8
      have LB := Lib.hid hb8
      have LN := Lib.hid hn8
      have LP := Lib.hid hp8
      have HGA := Lib.hid hgab
      have HWA := Lib.hid hwab
      have HRA := Lib.hid hrab
      have HWR := Lib.hid hwrb
      clear hT hw7 hn7 hb6 hwrb hb7 hgrb hp6 hp7 hab hw8 la8 hb8 hn8 hrab hp8 hwab hgab hP hbm hpm hgm hwm2 hbw5 hp5 hg5 hrb hw6 HN6 HW6 hb5 y1 y2 hxo hwm HB
      go_loopw [6] (fun f wr => ∃ k o n : Nat, o = 136 * k ∧ o + n = L ∧ f = .int .i64 o ∧ Hid (Lanes 25 wr ab (blkR P k)) ∧ Hid (Nums 25 wr rb T) ∧ Hid (At8 wr g (fun j => P.getD j 0) L) ∧ Hid (Below w.heap.size w wr)) (fun f _ => L - (RowKit.intOf f).toNat)
      case atStart => exact ⟨0, 0, L, rfl, by omega, rfl, LA, LN, LP, LB⟩
      case round =>
        clear LA LN LP LB
        obtain ⟨k, o, n, ho, hon, rfl, HA, HN, HP, HB⟩ := hrel
        have o1 : (0 : Int) ≤ o := by omega
        obtain ⟨A, hA⟩ : ∃ A, blkR P k = A := ⟨_, rfl⟩
        rw [hA] at HA
        have HAE := Lib.hid hA
        have HO := Lib.hid ho
        have HON := Lib.hid hon
        by_cases hn0 : n = 0
        · have o2 : ¬ ((o : Int) < (L : Int)) := by omega
          have hPl : P.length = L := by rw [← HPE.out]; exact HPL.out
          have hkk : P.length / 136 = k := by omega
          have hfin : kout A 32 = keccakL s := by
            unfold keccakL
            rw [HPE.out, hkk, hA]
          have HFIN := Lib.hid hfin
          clear hPl hkk hfin hA ho hon hn0 HN HP
          go_wp2_with fail
          obtain ⟨bs, hbs⟩ : ∃ b, wr.heap.size = b := ⟨_, rfl⟩
          have HBS := Lib.hid hbs
          have hwbs : w.heap.size ≤ bs := by rw [← hbs]; exact HB.out.size
          have HWBS := Lib.hid hwbs
          have HAB := Lib.hid (show ab < bs from by rw [← hbs]; exact HA.out.lt)
          clear hbs hwbs o1 o2
          go_loopw [9, 10] (fun v i wq => ∃ t : Nat, t ≤ 32 ∧ i = .int .i64 t ∧ Hid (OwnC bs wq v (kout A t)) ∧ Hid (Below bs wr wq)) (fun _ i _ => 32 - (RowKit.intOf i).toNat)
          case atStart => exact ⟨0, by omega, rfl, OwnC.nil _ _, Below.refl _ _⟩
          case round =>
            obtain ⟨t, ht, rfl, HO9, HB9⟩ := hrel
            have hA9 := HA.out.kept (HB9.out.block ab HAB.out)
            have hB9 := HB.out.trans (HB9.out.mono HWBS.out)
            have g3 : (0 : Int) ≤ t := by omega
            by_cases ht2 : t < 32
            · have g4 : (t : Int) < 32 := by omega
              obtain ⟨q8, hq8⟩ : ∃ q, t / 8 = q := ⟨_, rfl⟩
              obtain ⟨r8, hr8⟩ : ∃ q, t % 8 = q := ⟨_, rfl⟩
              have e1 : (t : Int).tdiv 8 = (q8 : Int) := by rw [← hq8, Int.tdiv_eq_ediv_of_nonneg (by omega)]; omega
              have e2 : (t : Int).tmod 8 = (r8 : Int) := by rw [← hr8, Int.tmod_eq_emod_of_nonneg (by omega)]; omega
              have b1 : q8 < 25 := by omega
              have hwq : IntKind.i64.wrap (q8 : Int) = (q8 : Int) := by rw [IntKind.wrap_i64]; omega
              have c1 : (0 : Int) ≤ q8 := by omega
              have c2 : (q8 : Int) < 25 := by omega
              obtain ⟨sh, hsh⟩ : ∃ q, 8 * r8 = q := ⟨_, rfl⟩
              have e3 : IntKind.i64.wrap (8 * (r8 : Int)) = (sh : Int) := by rw [IntKind.wrap_i64]; omega
              have c3 : (0 : Int) ≤ sh := by omega
              obtain ⟨X, hX⟩ : ∃ X, A q8 = X := ⟨_, rfl⟩
              have z0 := Lanes.cell hA9 b1
              rw [hX] at z0
              obtain ⟨Y, hY⟩ : ∃ Y, X >>> UInt64.ofNat sh = Y := ⟨_, rfl⟩
              have e5 : lv X / 2 ^ min sh 64 = lv Y := by
                rw [Nat.min_eq_left (show sh ≤ 64 by omega)]
                have h := lv_shr X sh (by omega)
                rw [Int.natCast_pow, hY] at h
                exact h
              obtain ⟨z, hz⟩ : ∃ z, Y.toUInt8 = z := ⟨_, rfl⟩
              have e6 : IntKind.u8.wrap (lv Y) = (z.toNat : Int) := by
                rw [← hz, IntKind.wrap_u8]
                unfold lv
                rw [UInt64.toNat_toUInt8]
                omega
              have HZV := Lib.hid (show kout A (t + 1) = kout A t ++ [z] from by rw [kout_succ, ← hz, ← hY, ← hX, ← hsh, ← hr8, ← hq8])
              have HKL9 := Lib.hid (kout_length A t)
              obtain ⟨K9, hK9⟩ : ∃ K, kout A t = K := ⟨_, rfl⟩
              rw [hK9] at HO9 HZV HKL9
              obtain ⟨pv, cv, rfl⟩ := HO9.out.form
              have hkl9 : K9.length = t := HKL9.out
              rw [hkl9] at HO9 ⊢
              have HT2 := Lib.hid ht2
              clear hq8 hr8 hsh hX hY hz hA9 hB9 hK9 hkl9 ht2
              go_wp2_with (at_builtin; refine wpList_appendC rfl _ _ 55 rfl bs 5 Tryz.underlying55 infoByteK _ K9 rfl (HO9.out.alloc _) ⟨wr.heap.size, 0, none⟩ 1 1 [z] rfl rfl ?c0 ?c1 ?c2 ?_)
              case c0 => exact cells_new_at rfl [.int .u8 (z.toNat : Int)] _
              case c1 => rw [HKL9.out]; have := HT2.out; omega
              case c2 => have := HB9.out.size; have := HBS.out; simp; omega
              intro v' w' ho' hg'
              rw [← HZV.out] at ho'
              have HOW := HO9.out.lt
              have hB' : Below bs _ w' := (HB9.out.alloc (by have := HB9.out.size; have := HBS.out; omega) _).grown hg' (by have := HB9.out.size; have := HBS.out; simp; omega) (fun r e => (HOW r e).1)
              have HOO := Lib.hid ho'
              have HBB := Lib.hid hB'
              clear ho' hg' hB' HOW
              go_wp2
              go_roundw
              case rel => exact ⟨t + 1, by have := HT2.out; omega, by rw [Int.natCast_add]; rfl, HOO, HBB⟩
              case measure => have := HT2.out; simp [RowKit.intOf]; omega
            · have ht5 : t = 32 := by omega
              have g4 : ¬ ((t : Int) < 32) := by omega
              rw [ht5, HFIN.out] at HO9
              have hkl := keccakL_length s
              obtain ⟨l, hlq⟩ : ∃ l, keccakL s = l := ⟨_, rfl⟩
              rw [hlq] at hkl HO9 HFIN
              have hstr := HO9.out.str (P := Tryz.prog) (src := 55) (dst := 9) Tryz.underlying55 Tryz.underlying5 Tryz.underlying9
              have HBF := Lib.hid hB9
              have HLQ := Lib.hid hlq
              clear hkl hlq ht5 ht hA9 hB9
              go_wp2
              go_ret
              exact ⟨by rw [HLQ.out]; rfl, HBF.out⟩
        · have o2 : (o : Int) < (L : Int) := by omega
          have hn136 : 136 ≤ n := by have := HLE.out.1; omega
          have HN1 := Lib.hid hn136
          clear hA ho hon hn136 hn0
          go_wp2_with fail
          go_loopw [7] (fun i wr => ∃ t : Nat, t ≤ 136 ∧ i = .int .i64 t ∧ Hid (Lanes 25 wr ab (absN P o A t)) ∧ Hid (Nums 25 wr rb T) ∧ Hid (At8 wr g (fun j => P.getD j 0) L) ∧ Hid (Below w.heap.size w wr)) (fun i _ => 136 - (RowKit.intOf i).toNat)
          case atStart => exact ⟨0, by omega, rfl, HA, HN, HP, HB⟩
          case round =>
            clear HA HN HP HB
            obtain ⟨t, ht, rfl, HA, HN, HP, HB⟩ := hrel
            have g3 : (0 : Int) ≤ t := by omega
            by_cases ht2 : t < 136
            · have g4 : (t : Int) < 136 := by omega
              obtain ⟨D, hD⟩ : ∃ D, absN P o A t = D := ⟨_, rfl⟩
              rw [hD] at HA
              have HDE := Lib.hid hD
              obtain ⟨q8, hq8⟩ : ∃ q, t / 8 = q := ⟨_, rfl⟩
              obtain ⟨r8, hr8⟩ : ∃ q, t % 8 = q := ⟨_, rfl⟩
              have e1 : (t : Int).tdiv 8 = (q8 : Int) := by rw [← hq8, Int.tdiv_eq_ediv_of_nonneg (by omega)]; omega
              have e2 : (t : Int).tmod 8 = (r8 : Int) := by rw [← hr8, Int.tmod_eq_emod_of_nonneg (by omega)]; omega
              have b1 : q8 < 25 := by omega
              have hwq : IntKind.i64.wrap (q8 : Int) = (q8 : Int) := by rw [IntKind.wrap_i64]; omega
              have b2 : r8 < 8 := by omega
              have c1 : (0 : Int) ≤ q8 := by omega
              have c2 : (q8 : Int) < 25 := by omega
              obtain ⟨sh, hsh⟩ : ∃ q, 8 * r8 = q := ⟨_, rfl⟩
              have e3 : IntKind.i64.wrap (8 * (r8 : Int)) = (sh : Int) := by rw [IntKind.wrap_i64]; omega
              have c3 : (0 : Int) ≤ sh := by omega
              obtain ⟨ot, hot⟩ : ∃ q, o + t = q := ⟨_, rfl⟩
              have b3 : ot < L := by have := HON.out; have := HN1.out; omega
              have c6 : IntKind.i64.wrap ((o : Int) + (t : Int)) = (ot : Int) := by rw [IntKind.wrap_i64]; have := HL2.out; omega
              have c4 : (ot : Int) < (L : Int) := by omega
              have c5 : (0 : Int) ≤ ot := by omega
              obtain ⟨x, hx⟩ : ∃ x, P.getD ot 0 = x := ⟨_, rfl⟩
              obtain ⟨X, hX⟩ : ∃ X, x.toUInt64 = X := ⟨_, rfl⟩
              have e4 : IntKind.u64.wrap (x.toNat : Int) = lv X := by
                rw [← hX]
                have h1 := wrap64_nat x.toNat (by have := x.toNat_lt; omega)
                rw [h1]
                unfold lv
                simp
              have e5 : IntKind.u64.wrap (lv X * 2 ^ min sh 64) = lv (X <<< UInt64.ofNat sh) := by
                rw [Nat.min_eq_left (show sh ≤ 64 by omega)]
                have h := lv_shl X sh (by omega)
                rw [Int.natCast_pow] at h
                rw [IntKind.wrap_u64]
                exact h
              have hA' : Lanes 25 wr.drew ab D := HA.out.kept rfl
              have hP' : At8 wr.drew g (fun j => P.getD j 0) L := HP.out.of_block rfl
              have HSF := Lib.hid (And.intro hA' hP')
              have HN' := Lib.hid (show Nums 25 wr.drew rb T from HN.out.kept rfl)
              have HB' := Lib.hid (show Below w.heap.size w wr.drew from HB.out.drew)
              have HX := Lib.hid hx
              have HXX := Lib.hid hX
              have HOT := Lib.hid hot
              have HSH := Lib.hid hsh
              have HQ8 := Lib.hid hq8
              have HR8 := Lib.hid hr8
              have BB1 := Lib.hid b1
              have BB3 := Lib.hid b3
              clear hx hX hsh hq8 hr8 b1 b2 b3 hA' hP' HA HP HB HN hD hot
              go_wp2_with fail
              refine wp_region_L (fun Ls w' => Ls.getD 19 true = false → Lanes 25 w' ab D ∧ At8 w' g (fun j => P.getD j 0) L) (by kernel_rfl) ?_
              refine wpAnyL_take (i := 0) (v := ?_) (fuel := 19) rfl (by kernel_rfl) (by kernel_rfl) (by kernel_rfl) (by kernel_rfl) (fun _ _ _ h => h) (fun Ls w' => by rw [getD_set_ne true (by omega)]) (fun _ => HSF.out) (.inl ⟨by rfl, ?_⟩) ?_
              rotate_left 1
              · rintro w' ⟨Ls, hcl, h0, hS⟩
                clear hS hcl h0
                go_simp <;> with_reducible rfl
              try simp only [Act.put, zq1, zq2, zq4, zq5, zq6]
              refine wpAnyL_take (i := 1) (v := ?_) (fuel := 18) rfl (by kernel_rfl) (by kernel_rfl) (by kernel_rfl) (by kernel_rfl) (fun _ _ _ h => h) (fun Ls w' => by rw [getD_set_ne true (by omega)]) (fun _ => HSF.out) (.inl ⟨by rfl, ?_⟩) ?_
              rotate_left 1
              · rintro w' ⟨Ls, hcl, h0, hS⟩
                clear hS hcl h0
                go_simp <;> with_reducible rfl
              try simp only [Act.put, zq1, zq2, zq3, zq4, zq5, zq6]
              refine wpAnyL_take (i := 2) (v := ?_) (fuel := 17) rfl (by kernel_rfl) (by kernel_rfl) (by kernel_rfl) (by kernel_rfl) (fun _ _ _ h => h) (fun Ls w' => by rw [getD_set_ne true (by omega)]) (fun _ => HSF.out) (.inl ⟨by rfl, ?_⟩) ?_
              rotate_left 1
              · rintro w' ⟨Ls, hcl, h0, hS⟩
                clear hS hcl h0
                go_simp <;> with_reducible rfl
              try simp only [Act.put, zq1, zq2, zq3, zq4, zq5, zq6]
              refine wpAnyL_take (i := 3) (v := ?_) (fuel := 16) rfl (by kernel_rfl) (by kernel_rfl) (by kernel_rfl) (by kernel_rfl) (fun _ _ _ h => h) (fun Ls w' => by rw [getD_set_ne true (by omega)]) (fun _ => HSF.out) (.inl ⟨by rfl, ?_⟩) ?_
              rotate_left 1
              · rintro w' ⟨Ls, hcl, h0, hS⟩
                clear hS hcl h0
                go_simp <;> with_reducible rfl
              try simp only [Act.put, zq1, zq2, zq3, zq4, zq5, zq6]
              refine wpAnyL_take (i := 4) (v := ?_) (fuel := 15) rfl (by kernel_rfl) (by kernel_rfl) (by kernel_rfl) (by kernel_rfl) (fun _ _ _ h => h) (fun Ls w' => by rw [getD_set_ne true (by omega)]) (fun _ => HSF.out) (.inl ⟨by rfl, ?_⟩) ?_
              rotate_left 1
              · rintro w' ⟨Ls, hcl, h0, hS⟩
                clear hS hcl h0
                go_simp <;> with_reducible rfl
              try simp only [Act.put, zq1, zq2, zq3, zq4, zq5, zq6]
              refine wpAnyL_take (i := 5) (v := ?_) (fuel := 14) rfl (by kernel_rfl) (by kernel_rfl) (by kernel_rfl) (by kernel_rfl) (fun _ _ _ h => h) (fun Ls w' => by rw [getD_set_ne true (by omega)]) (fun _ => HSF.out) (.inl ⟨by rfl, ?_⟩) ?_
              rotate_left 1
              · rintro w' ⟨Ls, hcl, h0, hS⟩
                have hSw := hS (closedB_before hcl (i := 5) (by kernel_rfl) h0)
                have z0 := Lanes.cell hSw.1 BB1.out
                have z1 := (hSw.2 ot BB3.out).1
                dsimp only at z1
                rw [HX.out] at z1
                clear hS hcl h0
                go_simp <;> with_reducible rfl
              try simp only [Act.put, zq1, zq2, zq3, zq4, zq5, zq6]
              refine wpAnyL_take (i := 6) (v := ?_) (fuel := 13) rfl (by kernel_rfl) (by kernel_rfl) (by kernel_rfl) (by kernel_rfl) (fun _ _ _ h => h) (fun Ls w' => by rw [getD_set_ne true (by omega)]) (fun _ => HSF.out) (.inl ⟨by rfl, ?_⟩) ?_
              rotate_left 1
              · rintro w' ⟨Ls, hcl, h0, hS⟩
                clear hS hcl h0
                go_simp <;> with_reducible rfl
              try simp only [Act.put, zq1, zq2, zq3, zq4, zq5, zq6]
              refine wpAnyL_take (i := 7) (v := ?_) (fuel := 12) rfl (by kernel_rfl) (by kernel_rfl) (by kernel_rfl) (by kernel_rfl) (fun _ _ _ h => h) (fun Ls w' => by rw [getD_set_ne true (by omega)]) (fun _ => HSF.out) (.inl ⟨by rfl, ?_⟩) ?_
              rotate_left 1
              · rintro w' ⟨Ls, hcl, h0, hS⟩
                clear hS hcl h0
                go_simp <;> with_reducible rfl
              try simp only [Act.put, zq1, zq2, zq3, zq4, zq5, zq6]
              refine wpAnyL_take (i := 8) (v := ?_) (fuel := 11) rfl (by kernel_rfl) (by kernel_rfl) (by kernel_rfl) (by kernel_rfl) (fun _ _ _ h => h) (fun Ls w' => by rw [getD_set_ne true (by omega)]) (fun _ => HSF.out) (.inl ⟨by rfl, ?_⟩) ?_
              rotate_left 1
              · rintro w' ⟨Ls, hcl, h0, hS⟩
                clear hS hcl h0
                go_simp <;> with_reducible rfl
              try simp only [Act.put, zq1, zq2, zq3, zq4, zq5, zq6]
              refine wpAnyL_take (i := 9) (v := ?_) (fuel := 10) rfl (by kernel_rfl) (by kernel_rfl) (by kernel_rfl) (by kernel_rfl) (fun _ _ _ h => h) (fun Ls w' => by rw [getD_set_ne true (by omega)]) (fun _ => HSF.out) (.inl ⟨by rfl, ?_⟩) ?_
              rotate_left 1
              · rintro w' ⟨Ls, hcl, h0, hS⟩
                clear hS hcl h0
                go_simp <;> with_reducible rfl
              try simp only [Act.put, zq1, zq2, zq3, zq4, zq5, zq6]
              refine wpAnyL_take (i := 10) (v := ?_) (fuel := 9) rfl (by kernel_rfl) (by kernel_rfl) (by kernel_rfl) (by kernel_rfl) (fun _ _ _ h => h) (fun Ls w' => by rw [getD_set_ne true (by omega)]) (fun _ => HSF.out) (.inl ⟨by rfl, ?_⟩) ?_
              rotate_left 1
              · rintro w' ⟨Ls, hcl, h0, hS⟩
                clear hS hcl h0
                go_simp <;> with_reducible rfl
              try simp only [Act.put, zq1, zq2, zq3, zq4, zq5, zq6]
              refine wpAnyL_take (i := 11) (v := ?_) (fuel := 8) rfl (by kernel_rfl) (by kernel_rfl) (by kernel_rfl) (by kernel_rfl) (fun _ _ _ h => h) (fun Ls w' => by rw [getD_set_ne true (by omega)]) (fun _ => HSF.out) (.inl ⟨by rfl, ?_⟩) ?_
              rotate_left 1
              · rintro w' ⟨Ls, hcl, h0, hS⟩
                have hSw := hS (closedB_before hcl (i := 11) (by kernel_rfl) h0)
                have z0 := Lanes.cell hSw.1 BB1.out
                have z1 := (hSw.2 ot BB3.out).1
                dsimp only at z1
                rw [HX.out] at z1
                clear hS hcl h0
                go_simp <;> with_reducible rfl
              try simp only [Act.put, zq1, zq2, zq3, zq4, zq5, zq6]
              refine wpAnyL_take (i := 12) (v := ?_) (fuel := 7) rfl (by kernel_rfl) (by kernel_rfl) (by kernel_rfl) (by kernel_rfl) (fun _ _ _ h => h) (fun Ls w' => by rw [getD_set_ne true (by omega)]) (fun _ => HSF.out) (.inl ⟨by rfl, ?_⟩) ?_
              rotate_left 1
              · rintro w' ⟨Ls, hcl, h0, hS⟩
                clear hS hcl h0
                go_simp <;> with_reducible rfl
              try simp only [Act.put, zq1, zq2, zq3, zq4, zq5, zq6]
              refine wpAnyL_take (i := 13) (v := ?_) (fuel := 6) rfl (by kernel_rfl) (by kernel_rfl) (by kernel_rfl) (by kernel_rfl) (fun _ _ _ h => h) (fun Ls w' => by rw [getD_set_ne true (by omega)]) (fun _ => HSF.out) (.inl ⟨by rfl, ?_⟩) ?_
              rotate_left 1
              · rintro w' ⟨Ls, hcl, h0, hS⟩
                clear hS hcl h0
                go_simp <;> with_reducible rfl
              try simp only [Act.put, zq1, zq2, zq3, zq4, zq5, zq6]
              refine wpAnyL_take (i := 14) (v := ?_) (fuel := 5) rfl (by kernel_rfl) (by kernel_rfl) (by kernel_rfl) (by kernel_rfl) (fun _ _ _ h => h) (fun Ls w' => by rw [getD_set_ne true (by omega)]) (fun _ => HSF.out) (.inl ⟨by rfl, ?_⟩) ?_
              rotate_left 1
              · rintro w' ⟨Ls, hcl, h0, hS⟩
                clear hS hcl h0
                go_simp <;> with_reducible rfl
              try simp only [Act.put, zq1, zq2, zq3, zq4, zq5, zq6]
              refine wpAnyL_take (i := 15) (v := ?_) (fuel := 4) rfl (by kernel_rfl) (by kernel_rfl) (by kernel_rfl) (by kernel_rfl) (fun _ _ _ h => h) (fun Ls w' => by rw [getD_set_ne true (by omega)]) (fun _ => HSF.out) (.inl ⟨by rfl, ?_⟩) ?_
              rotate_left 1
              · rintro w' ⟨Ls, hcl, h0, hS⟩
                clear hS hcl h0
                go_simp <;> with_reducible rfl
              try simp only [Act.put, zq1, zq2, zq3, zq4, zq5, zq6]
              refine wpAnyL_take (i := 16) (v := ?_) (fuel := 3) rfl (by kernel_rfl) (by kernel_rfl) (by kernel_rfl) (by kernel_rfl) (fun _ _ _ h => h) (fun Ls w' => by rw [getD_set_ne true (by omega)]) (fun _ => HSF.out) (.inl ⟨by rfl, ?_⟩) ?_
              rotate_left 1
              · rintro w' ⟨Ls, hcl, h0, hS⟩
                clear hS hcl h0
                go_simp <;> with_reducible rfl
              try simp only [Act.put, zq1, zq2, zq3, zq4, zq5, zq6]
              refine wpAnyL_take (i := 17) (v := ?_) (fuel := 2) rfl (by kernel_rfl) (by kernel_rfl) (by kernel_rfl) (by kernel_rfl) (fun _ _ _ h => h) (fun Ls w' => by rw [getD_set_ne true (by omega)]) (fun _ => HSF.out) (.inl ⟨by rfl, ?_⟩) ?_
              rotate_left 1
              · rintro w' ⟨Ls, hcl, h0, hS⟩
                clear hS hcl h0
                go_simp <;> with_reducible rfl
              try simp only [Act.put, zq1, zq2, zq3, zq4, zq5, zq6]
              refine wpAnyL_take (i := 18) (v := ?_) (fuel := 1) rfl (by kernel_rfl) (by kernel_rfl) (by kernel_rfl) (by kernel_rfl) (fun _ _ _ h => h) (fun Ls w' => by rw [getD_set_ne true (by omega)]) (fun _ => HSF.out) (.inl ⟨by rfl, ?_⟩) ?_
              rotate_left 1
              · rintro w' ⟨Ls, hcl, h0, hS⟩
                clear hS hcl h0
                go_simp <;> with_reducible rfl
              try simp only [Act.put, zq1, zq2, zq3, zq4, zq5, zq6]
              have y1 := Lanes.cell HSF.out.1 BB1.out
              have y2 := Lanes.frozen HSF.out.1 q8
              have y3 := HSF.out.1.lt
              refine wpAnyL_one (i := 19) (fuel := 0) (by kernel_rfl) rfl (fun K hK => ?_)
              go_simp
              refine hK.out _ _ (fun h => (by cases h)) (fun _ => ?_)
              clear hK K
              try simp only [Act.put, zq1, zq2, zq3, zq4, zq5, zq6]
              refine wpAnyL_done (by kernel_rfl) ?_ 0
              have HDN := Lib.hid (show absN P o A (t + 1) = upd D q8 (D q8 ^^^ (X <<< UInt64.ofNat sh)) from by rw [← HQ8.out, ← HSH.out, ← HR8.out, ← HXX.out, ← HX.out, ← HOT.out, ← HDE.out]; rfl)
              clear y1 y2 y3 hwq e1 e2 e3 e4 e5 c1 c2 c3 c4 c5
              go_wp2
              go_roundw
              case rel =>
                refine ⟨t + 1, by omega, by rw [Int.natCast_add]; rfl, Lib.hid ?_, Lib.hid ?_, Lib.hid ?_, Lib.hid ?_⟩
                · rw [HDN.out]
                  exact HSF.out.1.set BB1.out _
                · exact HN'.out.setOther (by have := HRA.out; omega) _
                · exact HSF.out.2.of_block (Below.heap_setCell _ _ _ _ (by have := HGA.out; show g ≠ ab; omega))
                · exact HB'.out.setCell (p := ⟨ab, q8, none⟩) HWA.out _
              case measure => simp [RowKit.intOf]; omega
            · have ht5 : t = 136 := by omega
              have g4 : ¬ ((t : Int) < 136) := by omega
              rw [ht5] at HA
              clear ht5 ht ht2
              obtain ⟨D, hD⟩ : ∃ D, absN P o A 136 = D := ⟨_, rfl⟩
              rw [hD] at HA
              have HDE := Lib.hid hD
              clear hD
              go_wp2_with fail
              go_loopw [8] (fun i wr => ∃ t : Nat, t ≤ 24 ∧ i = .int .i64 t ∧ Hid (Lanes 25 wr ab (permR D t)) ∧ Hid (Nums 25 wr rb T) ∧ Hid (At8 wr g (fun j => P.getD j 0) L) ∧ Hid (Below w.heap.size w wr)) (fun i _ => 24 - (RowKit.intOf i).toNat)
              case atStart => exact ⟨0, by omega, rfl, HA, HN, HP, HB⟩
              case round =>
                clear HA HN HP HB g3 g4
                obtain ⟨t, ht, rfl, HA, HN, HP, HB⟩ := hrel
                have g3 : (0 : Int) ≤ t := by omega
                by_cases ht2 : t < 24
                · have g4 : (t : Int) < 24 := by omega
                  obtain ⟨E, hE⟩ : ∃ E, permR D t = E := ⟨_, rfl⟩
                  rw [hE] at HA
                  have HEE := Lib.hid hE
                  have H := Lib.hid (round_any E t ht2 T HTL.out wr)
                  have HT2 := Lib.hid ht2
                  clear hE ht2
                  go_wp2_with (first | ((with_reducible refine load_gateK 163 ?_); refine wpList_load_mid rfl 163 _ rfl ab 0 rfl (lanV E) _ HA.out.row25 Tryz.underlying163 rfl (by rw [lanV_len]; exact infoLan) ?_) | ((with_reducible refine load_gateK 161 ?_); refine wpList_load_mid rfl 161 _ rfl rb 0 rfl (numV T) _ HN.out.row Tryz.underlying161 rfl (by rw [numV_len]; exact infoNum) ?_))
                  refine H.out.mono ?_
                  rintro e w9 ⟨rfl, hb9⟩
                  obtain ⟨G, hG⟩ : ∃ G, roundG E t T = G := ⟨_, rfl⟩
                  rw [hG]
                  have HG := Lib.hid (show permR D (t + 1) = G from by
                    show roundR (permR D t) t = G
                    rw [HEE.out, HTR.out, hG])
                  have A9 := Lib.hid (show Lanes 25 w9 ab E from HA.out.kept (hb9.block ab HA.out.lt))
                  have N9 := Lib.hid (show Nums 25 w9 rb T from HN.out.kept (hb9.block rb HN.out.lt))
                  have P9 := Lib.hid (show At8 w9 g (fun j => P.getD j 0) L from HP.out.of_block (hb9.block g (by have := HA.out.lt; have := HGA.out; omega)))
                  have B9 := Lib.hid (show Below w.heap.size w w9 from HB.out.trans (hb9.mono HB.out.size))
                  clear hG hb9 H HA HN HP HB
                  go_wp2_with ((with_reducible refine store_gateK 163 ?_); refine wpList_store_mid rfl 163 _ _ rfl ab 0 (lanV G).toArray rfl rfl (A9.out.there _) (by rw [List.size_toArray, lanV_len]; exact infoLan) (lanV_one _) ?_)
                  go_roundw
                  case rel =>
                    refine ⟨t + 1, by have := HT2.out; omega, by rw [Int.natCast_add]; rfl, Lib.hid ?_, Lib.hid ?_, Lib.hid ?_, Lib.hid ?_⟩
                    · rw [HG.out]
                      exact A9.out.laid G
                    · exact N9.out.kept (heap_setCells_other _ _ _ _ _ (by have := HRA.out; omega))
                    · exact P9.out.of_block (heap_setCells_other _ _ _ _ _ (by have := HGA.out; omega))
                    · exact B9.out.trans (sets_belowK HWA.out _ _ _)
                  case measure => have := HT2.out; simp [RowKit.intOf]; omega
                · have ht5 : t = 24 := by omega
                  have g4 : ¬ ((t : Int) < 24) := by omega
                  rw [ht5] at HA
                  have HA5 := Lib.hid (show Lanes 25 wr ab (blkR P (k + 1)) from by
                    show Lanes 25 wr ab (permR (absN P (136 * k) (blkR P k) 136) 24)
                    rw [HAE.out, ← HO.out, HDE.out]
                    exact HA.out)
                  have hon2 : IntKind.i64.wrap ((o : Int) + 136) = ((o + 136 : Nat) : Int) := by rw [IntKind.wrap_i64]; have := HL2.out; have := HON.out; omega
                  clear ht5 ht ht2 HA
                  go_wp2
                  go_roundw
                  case rel => exact ⟨k + 1, o + 136, n - 136, by have := HO.out; omega, by have := HON.out; have := HN1.out; omega, rfl, HA5, HN, HP, HB⟩
                  case measure => have := HON.out; have := HN1.out; simp [RowKit.intOf]; omega
    · have g3 : ¬ ((q : Int) = 0) := by omega
      have hlt : z < zm := by have := HZM.out; omega
      have HLT := Lib.hid hlt
      have hsl2 : s.length ≤ 1099511627776 := by omega
      have HSL := Lib.hid hsl2
      clear hL hLz hlt hz hzm2 hq hq0 hsl2
      go_wp2_with (at_builtin; refine wpList_appendC rfl _ _ 55 rfl w.heap.size 5 Tryz.underlying55 infoByteK _ (s ++ 1 :: List.replicate z 0) rfl (HO.out.alloc _) ⟨wr.heap.size, 0, none⟩ 1 1 [0] rfl rfl ?c0 ?c1 ?c2 ?_)
      case c0 => exact cells_new_at rfl [.int .u8 0] _
      case c1 => have := HLZ.out; have := HL.out; have := HLT.out; have := HZM.out; have := HSL.out; omega
      case c2 => have := HB.out.size; simp; omega
      intro v' w' ho' hg'
      have hO' : OwnC w.heap.size w' v' (s ++ 1 :: List.replicate (z + 1) 0) := by
        rw [List.replicate_succ']
        exact ho'
      have hlz' : (s ++ 1 :: List.replicate (z + 1) 0).length = L + 1 := by have := HLZ.out; rw [List.length_append, List.length_cons, List.length_replicate]; omega
      have HOW := HO.out.lt
      have hB' : Below w.heap.size w w' := (HB.out.alloc HB.out.size _).grown hg' (by have := HB.out.size; simp; omega) (fun r e => (HOW r e).1)
      have HOO := Lib.hid hO'
      have HBB := Lib.hid hB'
      have HLL := Lib.hid hlz'
      clear ho' hg' hO' hB' hlz' HOW
      go_wp2
      go_roundw
      case rel => exact ⟨z + 1, HLT.out, HOO, HBB⟩
      case measure =>
        obtain ⟨p', c', rfl⟩ := HOO.out.form
        rw [HLL.out]
        simp only [lenOf]
        have := HLZ.out; have := HLT.out
        omega
end Go.Proofs.YtlelgbmbmajfmaaGreatDoor
