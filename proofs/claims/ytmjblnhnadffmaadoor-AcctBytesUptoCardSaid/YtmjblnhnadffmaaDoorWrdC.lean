/- Contract of the reference's words as bytes. -/
import Derived.Test.YtmjblnhnadffmaaDoorWrdB
namespace Go.Proofs.YtmjblnhnadffmaaDoor
open Go.RowKit Go.Lib

theorem infoByteW : (Tryd.prog.info? 5).map (fun i => (i.zero, i.size, i.bytes)) = some (some (.int .u8 0), 1, 1) := by kernel_rfl
theorem byte_val (x s : Nat) : ((UInt8.ofNat (x / s)).toNat : Int) = (x : Int) / (s : Int) % 256 := by simp

theorem ref_round {w wr w2 : World} {x0 x1 x2 x3 : Nat} {p : Option Addr} {n cp : Nat} {l l2 : List UInt8} {o : Obj} {v' : Value} {e : TypeId} (hB : Below w.heap.size w wr)
    (hC : wr.cell? ⟨w.heap.size, 0, none⟩ = some (.int .u64 x0) ∧ wr.cell? ⟨w.heap.size, 1, none⟩ = some (.int .u64 x1) ∧ wr.cell? ⟨w.heap.size, 2, none⟩ = some (.int .u64 x2) ∧ wr.cell? ⟨w.heap.size, 3, none⟩ = some (.int .u64 x3))
    (hown : OwnB e (w.heap.size + 1) wr (.slice p n cp) l) (hown2 : OwnB e (w.heap.size + 1) w2 v' l2) (hg : (wr.alloc o).grownBy w2 (Value.slice p n cp).ownBlock) :
    OwnB e (w.heap.size + 1) w2 v' l2 ∧ Below w.heap.size w w2 ∧ w2.cell? ⟨w.heap.size, 0, none⟩ = some (.int .u64 x0) ∧ w2.cell? ⟨w.heap.size, 1, none⟩ = some (.int .u64 x1) ∧ w2.cell? ⟨w.heap.size, 2, none⟩ = some (.int .u64 x2) ∧ w2.cell? ⟨w.heap.size, 3, none⟩ = some (.int .u64 x3) := by
  have hz := hB.size
  obtain ⟨h0, h1, h2, h3⟩ := hC
  have hlt := World.block_lt_of_cell? wr _ h0
  dsimp only at hlt
  have hb : w2.heap[w.heap.size]? = wr.heap[w.heap.size]? := (hg.block w.heap.size (by simp; omega) (fun e => by have := (hown.lt _ e.symm).1; omega)).trans (Below.heap_alloc _ _ _ hlt)
  exact ⟨hown2, (hB.alloc hz _).grown hg (by simp; omega) (fun k hk => Nat.le_of_succ_le (hown.lt k hk).1), (World.cell?_of_block (a := ⟨w.heap.size, 0, none⟩) hb).trans h0, (World.cell?_of_block (a := ⟨w.heap.size, 1, none⟩) hb).trans h1, (World.cell?_of_block (a := ⟨w.heap.size, 2, none⟩) hb).trans h2, (World.cell?_of_block (a := ⟨w.heap.size, 3, none⟩) hb).trans h3⟩

set_option maxRecDepth 100000 in
set_option maxHeartbeats 6400000 in
theorem wordBytesRef_any (v : Nat) (w : World) :
    Calls Tryd.prog 62 #[wordV v] w fun e w' => e = .returned (.string ⟨(be 32 v).toArray⟩) ∧ Below w.heap.size w w' := by
  obtain ⟨x0, hx0⟩ : ∃ x, limb v 0 = x := ⟨_, rfl⟩
  obtain ⟨x1, hx1⟩ : ∃ x, limb v 1 = x := ⟨_, rfl⟩
  obtain ⟨x2, hx2⟩ : ∃ x, limb v 2 = x := ⟨_, rfl⟩
  obtain ⟨x3, hx3⟩ : ∃ x, limb v 3 = x := ⟨_, rfl⟩
  have HX := Lib.hid (And.intro hx0 (And.intro hx1 (And.intro hx2 hx3)))
  have hv : wordV v = .agg #[.int .u64 x0, .int .u64 x1, .int .u64 x2, .int .u64 x3] := by unfold wordV; rw [hx0, hx1, hx2, hx3]
  rw [hv]
  clear hx0 hx1 hx2 hx3 hv
  have hbl := be_length 32 v
  have hbs : ∀ k, k < 32 → (be 32 v).take (k + 1) = (be 32 v).take k ++ [UInt8.ofNat (limb v (3 - k / 8) / 2 ^ (56 - 8 * (k % 8)))] := fun k hk => by
    rw [be_take 32 v k hk, ofNat_byte hk]
  obtain ⟨bl, hble⟩ : ∃ bl, be 32 v = bl := ⟨_, rfl⟩
  rw [hble] at hbl hbs ⊢
  clear hble
  have HBL := Lib.hid hbl
  have HBS := Lib.hid hbs
  clear hbl hbs
  go_enter Tryd.func62, Tryd.ntmps62
  go_wp2
  go_loopw [3, 4] (fun s i wr => ∃ k m : Nat, k + m = 32 ∧ i = .int .i64 ((m : Int) - 1) ∧ OwnB 5 (w.heap.size + 1) wr s (bl.take k) ∧ Below w.heap.size w wr ∧
      (wr.cell? ⟨w.heap.size, 0, none⟩ = some (.int .u64 x0) ∧ wr.cell? ⟨w.heap.size, 1, none⟩ = some (.int .u64 x1) ∧ wr.cell? ⟨w.heap.size, 2, none⟩ = some (.int .u64 x2) ∧ wr.cell? ⟨w.heap.size, 3, none⟩ = some (.int .u64 x3))) (fun _ i _ => (RowKit.intOf i + 1).toNat)
  case atStart => exact ⟨0, 32, by omega, rfl, OwnB.nil _ _ _, (Below.refl _ _).alloc (Nat.le_refl _) _, ⟨by simp, by simp, by simp, by simp⟩⟩
  case round =>
    obtain ⟨k, m, hkm, rfl, hown, hB, c0, c1, c2, c3⟩ := hrel
    obtain ⟨l, hl⟩ : ∃ l, bl.take k = l := ⟨_, rfl⟩
    rw [hl] at hown
    obtain ⟨p, cp, rfl⟩ := hown.form
    have hlen : l.length = k := by rw [← hl, List.length_take, HBL.out]; omega
    have Hl := Lib.hid hl
    have Hlen := Lib.hid hlen
    have HC := Lib.hid (And.intro c0 (And.intro c1 (And.intro c2 c3)))
    have Hown := Lib.hid hown
    have HB := Lib.hid hB
    have hsz := World.block_lt_of_cell? wr _ c0
    dsimp only at hsz
    by_cases hlt : k < 32
    · obtain ⟨kk, hkk⟩ : ∃ kk, kk = k := ⟨_, rfl⟩
      clear hl hlen hown hB
      rcases (by omega : k = 0 ∨ k = 1 ∨ k = 2 ∨ k = 3 ∨ k = 4 ∨ k = 5 ∨ k = 6 ∨ k = 7 ∨ k = 8 ∨ k = 9 ∨ k = 10 ∨ k = 11 ∨ k = 12 ∨ k = 13 ∨ k = 14 ∨ k = 15 ∨ k = 16 ∨ k = 17 ∨ k = 18 ∨ k = 19 ∨ k = 20 ∨ k = 21 ∨ k = 22 ∨ k = 23 ∨ k = 24 ∨ k = 25 ∨ k = 26 ∨ k = 27 ∨ k = 28 ∨ k = 29 ∨ k = 30 ∨ k = 31) with rfl | rfl | rfl | rfl | rfl | rfl | rfl | rfl | rfl | rfl | rfl | rfl | rfl | rfl | rfl | rfl | rfl | rfl | rfl | rfl | rfl | rfl | rfl | rfl | rfl | rfl | rfl | rfl | rfl | rfl | rfl | rfl
      · have HK := Lib.hid hkk
        have hm : (m : Int) - 1 = 31 := by omega
        rw [hm]
        clear hkk hm
        have hown2 := OwnB.alloc Hown.out (.cells #[.int .u8 ((x3 : Int) / 72057594037927936 % 256)] 5)
        have Hown2 := Lib.hid hown2
        clear hown2
        go_wp2_with (at_builtin; refine wpList_appendB rfl _ _ 91 rfl (w.heap.size + 1) 5 Tryd.underlying91 infoByteW _ l rfl Hown2.out ⟨wr.heap.size, 0, none⟩ 1 1 [UInt8.ofNat (x3 / 72057594037927936)] rfl rfl ?c0 ?c1 ?c2 ?_)
        case c0 =>
          have e : Lib.byteCells [UInt8.ofNat (x3 / 72057594037927936)] = [.int .u8 ((x3 : Int) / 72057594037927936 % 256)] := by simp [Lib.byteCells]
          rw [e]
          exact cells_new_at (by simp) _ _
        case c1 => have := Hlen.out; omega
        case c2 => simp; omega
        intro v' w2 hown2 hg2
        have hr := ref_round HB.out HC.out Hown.out hown2 hg2
        clear hown2 hg2
        go_wp2
        refine ⟨⟨kk + 1, m - 1, by have := HK.out; omega, by rw [show (((m - 1 : Nat) : Int) - 1) = 30 from by omega], ?_, hr.2⟩, by simp [RowKit.intOf]⟩
        have e := HBS.out kk (by have := HK.out; omega)
        rw [HK.out, Hl.out] at e
        obtain ⟨_, _, _, y3⟩ := HX.out
        simp only [Nat.reduceDiv, Nat.reduceSub, Nat.reduceMod, Nat.reduceMul, Nat.reducePow, y3] at e
        rw [HK.out, e]
        exact hr.1
      · have HK := Lib.hid hkk
        have hm : (m : Int) - 1 = 30 := by omega
        rw [hm]
        clear hkk hm
        have hown2 := OwnB.alloc Hown.out (.cells #[.int .u8 ((x3 : Int) / 281474976710656 % 256)] 5)
        have Hown2 := Lib.hid hown2
        clear hown2
        go_wp2_with (at_builtin; refine wpList_appendB rfl _ _ 91 rfl (w.heap.size + 1) 5 Tryd.underlying91 infoByteW _ l rfl Hown2.out ⟨wr.heap.size, 0, none⟩ 1 1 [UInt8.ofNat (x3 / 281474976710656)] rfl rfl ?c0 ?c1 ?c2 ?_)
        case c0 =>
          have e : Lib.byteCells [UInt8.ofNat (x3 / 281474976710656)] = [.int .u8 ((x3 : Int) / 281474976710656 % 256)] := by simp [Lib.byteCells]
          rw [e]
          exact cells_new_at (by simp) _ _
        case c1 => have := Hlen.out; omega
        case c2 => simp; omega
        intro v' w2 hown2 hg2
        have hr := ref_round HB.out HC.out Hown.out hown2 hg2
        clear hown2 hg2
        go_wp2
        refine ⟨⟨kk + 1, m - 1, by have := HK.out; omega, by rw [show (((m - 1 : Nat) : Int) - 1) = 29 from by omega], ?_, hr.2⟩, by simp [RowKit.intOf]⟩
        have e := HBS.out kk (by have := HK.out; omega)
        rw [HK.out, Hl.out] at e
        obtain ⟨_, _, _, y3⟩ := HX.out
        simp only [Nat.reduceDiv, Nat.reduceSub, Nat.reduceMod, Nat.reduceMul, Nat.reducePow, y3] at e
        rw [HK.out, e]
        exact hr.1
      · have HK := Lib.hid hkk
        have hm : (m : Int) - 1 = 29 := by omega
        rw [hm]
        clear hkk hm
        have hown2 := OwnB.alloc Hown.out (.cells #[.int .u8 ((x3 : Int) / 1099511627776 % 256)] 5)
        have Hown2 := Lib.hid hown2
        clear hown2
        go_wp2_with (at_builtin; refine wpList_appendB rfl _ _ 91 rfl (w.heap.size + 1) 5 Tryd.underlying91 infoByteW _ l rfl Hown2.out ⟨wr.heap.size, 0, none⟩ 1 1 [UInt8.ofNat (x3 / 1099511627776)] rfl rfl ?c0 ?c1 ?c2 ?_)
        case c0 =>
          have e : Lib.byteCells [UInt8.ofNat (x3 / 1099511627776)] = [.int .u8 ((x3 : Int) / 1099511627776 % 256)] := by simp [Lib.byteCells]
          rw [e]
          exact cells_new_at (by simp) _ _
        case c1 => have := Hlen.out; omega
        case c2 => simp; omega
        intro v' w2 hown2 hg2
        have hr := ref_round HB.out HC.out Hown.out hown2 hg2
        clear hown2 hg2
        go_wp2
        refine ⟨⟨kk + 1, m - 1, by have := HK.out; omega, by rw [show (((m - 1 : Nat) : Int) - 1) = 28 from by omega], ?_, hr.2⟩, by simp [RowKit.intOf]⟩
        have e := HBS.out kk (by have := HK.out; omega)
        rw [HK.out, Hl.out] at e
        obtain ⟨_, _, _, y3⟩ := HX.out
        simp only [Nat.reduceDiv, Nat.reduceSub, Nat.reduceMod, Nat.reduceMul, Nat.reducePow, y3] at e
        rw [HK.out, e]
        exact hr.1
      · have HK := Lib.hid hkk
        have hm : (m : Int) - 1 = 28 := by omega
        rw [hm]
        clear hkk hm
        have hown2 := OwnB.alloc Hown.out (.cells #[.int .u8 ((x3 : Int) / 4294967296 % 256)] 5)
        have Hown2 := Lib.hid hown2
        clear hown2
        go_wp2_with (at_builtin; refine wpList_appendB rfl _ _ 91 rfl (w.heap.size + 1) 5 Tryd.underlying91 infoByteW _ l rfl Hown2.out ⟨wr.heap.size, 0, none⟩ 1 1 [UInt8.ofNat (x3 / 4294967296)] rfl rfl ?c0 ?c1 ?c2 ?_)
        case c0 =>
          have e : Lib.byteCells [UInt8.ofNat (x3 / 4294967296)] = [.int .u8 ((x3 : Int) / 4294967296 % 256)] := by simp [Lib.byteCells]
          rw [e]
          exact cells_new_at (by simp) _ _
        case c1 => have := Hlen.out; omega
        case c2 => simp; omega
        intro v' w2 hown2 hg2
        have hr := ref_round HB.out HC.out Hown.out hown2 hg2
        clear hown2 hg2
        go_wp2
        refine ⟨⟨kk + 1, m - 1, by have := HK.out; omega, by rw [show (((m - 1 : Nat) : Int) - 1) = 27 from by omega], ?_, hr.2⟩, by simp [RowKit.intOf]⟩
        have e := HBS.out kk (by have := HK.out; omega)
        rw [HK.out, Hl.out] at e
        obtain ⟨_, _, _, y3⟩ := HX.out
        simp only [Nat.reduceDiv, Nat.reduceSub, Nat.reduceMod, Nat.reduceMul, Nat.reducePow, y3] at e
        rw [HK.out, e]
        exact hr.1
      · have HK := Lib.hid hkk
        have hm : (m : Int) - 1 = 27 := by omega
        rw [hm]
        clear hkk hm
        have hown2 := OwnB.alloc Hown.out (.cells #[.int .u8 ((x3 : Int) / 16777216 % 256)] 5)
        have Hown2 := Lib.hid hown2
        clear hown2
        go_wp2_with (at_builtin; refine wpList_appendB rfl _ _ 91 rfl (w.heap.size + 1) 5 Tryd.underlying91 infoByteW _ l rfl Hown2.out ⟨wr.heap.size, 0, none⟩ 1 1 [UInt8.ofNat (x3 / 16777216)] rfl rfl ?c0 ?c1 ?c2 ?_)
        case c0 =>
          have e : Lib.byteCells [UInt8.ofNat (x3 / 16777216)] = [.int .u8 ((x3 : Int) / 16777216 % 256)] := by simp [Lib.byteCells]
          rw [e]
          exact cells_new_at (by simp) _ _
        case c1 => have := Hlen.out; omega
        case c2 => simp; omega
        intro v' w2 hown2 hg2
        have hr := ref_round HB.out HC.out Hown.out hown2 hg2
        clear hown2 hg2
        go_wp2
        refine ⟨⟨kk + 1, m - 1, by have := HK.out; omega, by rw [show (((m - 1 : Nat) : Int) - 1) = 26 from by omega], ?_, hr.2⟩, by simp [RowKit.intOf]⟩
        have e := HBS.out kk (by have := HK.out; omega)
        rw [HK.out, Hl.out] at e
        obtain ⟨_, _, _, y3⟩ := HX.out
        simp only [Nat.reduceDiv, Nat.reduceSub, Nat.reduceMod, Nat.reduceMul, Nat.reducePow, y3] at e
        rw [HK.out, e]
        exact hr.1
      · have HK := Lib.hid hkk
        have hm : (m : Int) - 1 = 26 := by omega
        rw [hm]
        clear hkk hm
        have hown2 := OwnB.alloc Hown.out (.cells #[.int .u8 ((x3 : Int) / 65536 % 256)] 5)
        have Hown2 := Lib.hid hown2
        clear hown2
        go_wp2_with (at_builtin; refine wpList_appendB rfl _ _ 91 rfl (w.heap.size + 1) 5 Tryd.underlying91 infoByteW _ l rfl Hown2.out ⟨wr.heap.size, 0, none⟩ 1 1 [UInt8.ofNat (x3 / 65536)] rfl rfl ?c0 ?c1 ?c2 ?_)
        case c0 =>
          have e : Lib.byteCells [UInt8.ofNat (x3 / 65536)] = [.int .u8 ((x3 : Int) / 65536 % 256)] := by simp [Lib.byteCells]
          rw [e]
          exact cells_new_at (by simp) _ _
        case c1 => have := Hlen.out; omega
        case c2 => simp; omega
        intro v' w2 hown2 hg2
        have hr := ref_round HB.out HC.out Hown.out hown2 hg2
        clear hown2 hg2
        go_wp2
        refine ⟨⟨kk + 1, m - 1, by have := HK.out; omega, by rw [show (((m - 1 : Nat) : Int) - 1) = 25 from by omega], ?_, hr.2⟩, by simp [RowKit.intOf]⟩
        have e := HBS.out kk (by have := HK.out; omega)
        rw [HK.out, Hl.out] at e
        obtain ⟨_, _, _, y3⟩ := HX.out
        simp only [Nat.reduceDiv, Nat.reduceSub, Nat.reduceMod, Nat.reduceMul, Nat.reducePow, y3] at e
        rw [HK.out, e]
        exact hr.1
      · have HK := Lib.hid hkk
        have hm : (m : Int) - 1 = 25 := by omega
        rw [hm]
        clear hkk hm
        have hown2 := OwnB.alloc Hown.out (.cells #[.int .u8 ((x3 : Int) / 256 % 256)] 5)
        have Hown2 := Lib.hid hown2
        clear hown2
        go_wp2_with (at_builtin; refine wpList_appendB rfl _ _ 91 rfl (w.heap.size + 1) 5 Tryd.underlying91 infoByteW _ l rfl Hown2.out ⟨wr.heap.size, 0, none⟩ 1 1 [UInt8.ofNat (x3 / 256)] rfl rfl ?c0 ?c1 ?c2 ?_)
        case c0 =>
          have e : Lib.byteCells [UInt8.ofNat (x3 / 256)] = [.int .u8 ((x3 : Int) / 256 % 256)] := by simp [Lib.byteCells]
          rw [e]
          exact cells_new_at (by simp) _ _
        case c1 => have := Hlen.out; omega
        case c2 => simp; omega
        intro v' w2 hown2 hg2
        have hr := ref_round HB.out HC.out Hown.out hown2 hg2
        clear hown2 hg2
        go_wp2
        refine ⟨⟨kk + 1, m - 1, by have := HK.out; omega, by rw [show (((m - 1 : Nat) : Int) - 1) = 24 from by omega], ?_, hr.2⟩, by simp [RowKit.intOf]⟩
        have e := HBS.out kk (by have := HK.out; omega)
        rw [HK.out, Hl.out] at e
        obtain ⟨_, _, _, y3⟩ := HX.out
        simp only [Nat.reduceDiv, Nat.reduceSub, Nat.reduceMod, Nat.reduceMul, Nat.reducePow, y3] at e
        rw [HK.out, e]
        exact hr.1
      · have HK := Lib.hid hkk
        have hm : (m : Int) - 1 = 24 := by omega
        rw [hm]
        clear hkk hm
        have hown2 := OwnB.alloc Hown.out (.cells #[.int .u8 ((x3 : Int) % 256)] 5)
        have Hown2 := Lib.hid hown2
        clear hown2
        go_wp2_with (at_builtin; refine wpList_appendB rfl _ _ 91 rfl (w.heap.size + 1) 5 Tryd.underlying91 infoByteW _ l rfl Hown2.out ⟨wr.heap.size, 0, none⟩ 1 1 [UInt8.ofNat (x3)] rfl rfl ?c0 ?c1 ?c2 ?_)
        case c0 =>
          have e : Lib.byteCells [UInt8.ofNat (x3)] = [.int .u8 ((x3 : Int) % 256)] := by simp [Lib.byteCells]
          rw [e]
          exact cells_new_at (by simp) _ _
        case c1 => have := Hlen.out; omega
        case c2 => simp; omega
        intro v' w2 hown2 hg2
        have hr := ref_round HB.out HC.out Hown.out hown2 hg2
        clear hown2 hg2
        go_wp2
        refine ⟨⟨kk + 1, m - 1, by have := HK.out; omega, by rw [show (((m - 1 : Nat) : Int) - 1) = 23 from by omega], ?_, hr.2⟩, by simp [RowKit.intOf]⟩
        have e := HBS.out kk (by have := HK.out; omega)
        rw [HK.out, Hl.out] at e
        obtain ⟨_, _, _, y3⟩ := HX.out
        simp only [Nat.reduceDiv, Nat.reduceSub, Nat.reduceMod, Nat.reduceMul, Nat.reducePow, y3, Nat.div_one] at e
        rw [HK.out, e]
        exact hr.1
      · have HK := Lib.hid hkk
        have hm : (m : Int) - 1 = 23 := by omega
        rw [hm]
        clear hkk hm
        have hown2 := OwnB.alloc Hown.out (.cells #[.int .u8 ((x2 : Int) / 72057594037927936 % 256)] 5)
        have Hown2 := Lib.hid hown2
        clear hown2
        go_wp2_with (at_builtin; refine wpList_appendB rfl _ _ 91 rfl (w.heap.size + 1) 5 Tryd.underlying91 infoByteW _ l rfl Hown2.out ⟨wr.heap.size, 0, none⟩ 1 1 [UInt8.ofNat (x2 / 72057594037927936)] rfl rfl ?c0 ?c1 ?c2 ?_)
        case c0 =>
          have e : Lib.byteCells [UInt8.ofNat (x2 / 72057594037927936)] = [.int .u8 ((x2 : Int) / 72057594037927936 % 256)] := by simp [Lib.byteCells]
          rw [e]
          exact cells_new_at (by simp) _ _
        case c1 => have := Hlen.out; omega
        case c2 => simp; omega
        intro v' w2 hown2 hg2
        have hr := ref_round HB.out HC.out Hown.out hown2 hg2
        clear hown2 hg2
        go_wp2
        refine ⟨⟨kk + 1, m - 1, by have := HK.out; omega, by rw [show (((m - 1 : Nat) : Int) - 1) = 22 from by omega], ?_, hr.2⟩, by simp [RowKit.intOf]⟩
        have e := HBS.out kk (by have := HK.out; omega)
        rw [HK.out, Hl.out] at e
        obtain ⟨_, _, y2, _⟩ := HX.out
        simp only [Nat.reduceDiv, Nat.reduceSub, Nat.reduceMod, Nat.reduceMul, Nat.reducePow, y2] at e
        rw [HK.out, e]
        exact hr.1
      · have HK := Lib.hid hkk
        have hm : (m : Int) - 1 = 22 := by omega
        rw [hm]
        clear hkk hm
        have hown2 := OwnB.alloc Hown.out (.cells #[.int .u8 ((x2 : Int) / 281474976710656 % 256)] 5)
        have Hown2 := Lib.hid hown2
        clear hown2
        go_wp2_with (at_builtin; refine wpList_appendB rfl _ _ 91 rfl (w.heap.size + 1) 5 Tryd.underlying91 infoByteW _ l rfl Hown2.out ⟨wr.heap.size, 0, none⟩ 1 1 [UInt8.ofNat (x2 / 281474976710656)] rfl rfl ?c0 ?c1 ?c2 ?_)
        case c0 =>
          have e : Lib.byteCells [UInt8.ofNat (x2 / 281474976710656)] = [.int .u8 ((x2 : Int) / 281474976710656 % 256)] := by simp [Lib.byteCells]
          rw [e]
          exact cells_new_at (by simp) _ _
        case c1 => have := Hlen.out; omega
        case c2 => simp; omega
        intro v' w2 hown2 hg2
        have hr := ref_round HB.out HC.out Hown.out hown2 hg2
        clear hown2 hg2
        go_wp2
        refine ⟨⟨kk + 1, m - 1, by have := HK.out; omega, by rw [show (((m - 1 : Nat) : Int) - 1) = 21 from by omega], ?_, hr.2⟩, by simp [RowKit.intOf]⟩
        have e := HBS.out kk (by have := HK.out; omega)
        rw [HK.out, Hl.out] at e
        obtain ⟨_, _, y2, _⟩ := HX.out
        simp only [Nat.reduceDiv, Nat.reduceSub, Nat.reduceMod, Nat.reduceMul, Nat.reducePow, y2] at e
        rw [HK.out, e]
        exact hr.1
      · have HK := Lib.hid hkk
        have hm : (m : Int) - 1 = 21 := by omega
        rw [hm]
        clear hkk hm
        have hown2 := OwnB.alloc Hown.out (.cells #[.int .u8 ((x2 : Int) / 1099511627776 % 256)] 5)
        have Hown2 := Lib.hid hown2
        clear hown2
        go_wp2_with (at_builtin; refine wpList_appendB rfl _ _ 91 rfl (w.heap.size + 1) 5 Tryd.underlying91 infoByteW _ l rfl Hown2.out ⟨wr.heap.size, 0, none⟩ 1 1 [UInt8.ofNat (x2 / 1099511627776)] rfl rfl ?c0 ?c1 ?c2 ?_)
        case c0 =>
          have e : Lib.byteCells [UInt8.ofNat (x2 / 1099511627776)] = [.int .u8 ((x2 : Int) / 1099511627776 % 256)] := by simp [Lib.byteCells]
          rw [e]
          exact cells_new_at (by simp) _ _
        case c1 => have := Hlen.out; omega
        case c2 => simp; omega
        intro v' w2 hown2 hg2
        have hr := ref_round HB.out HC.out Hown.out hown2 hg2
        clear hown2 hg2
        go_wp2
        refine ⟨⟨kk + 1, m - 1, by have := HK.out; omega, by rw [show (((m - 1 : Nat) : Int) - 1) = 20 from by omega], ?_, hr.2⟩, by simp [RowKit.intOf]⟩
        have e := HBS.out kk (by have := HK.out; omega)
        rw [HK.out, Hl.out] at e
        obtain ⟨_, _, y2, _⟩ := HX.out
        simp only [Nat.reduceDiv, Nat.reduceSub, Nat.reduceMod, Nat.reduceMul, Nat.reducePow, y2] at e
        rw [HK.out, e]
        exact hr.1
      · have HK := Lib.hid hkk
        have hm : (m : Int) - 1 = 20 := by omega
        rw [hm]
        clear hkk hm
        have hown2 := OwnB.alloc Hown.out (.cells #[.int .u8 ((x2 : Int) / 4294967296 % 256)] 5)
        have Hown2 := Lib.hid hown2
        clear hown2
        go_wp2_with (at_builtin; refine wpList_appendB rfl _ _ 91 rfl (w.heap.size + 1) 5 Tryd.underlying91 infoByteW _ l rfl Hown2.out ⟨wr.heap.size, 0, none⟩ 1 1 [UInt8.ofNat (x2 / 4294967296)] rfl rfl ?c0 ?c1 ?c2 ?_)
        case c0 =>
          have e : Lib.byteCells [UInt8.ofNat (x2 / 4294967296)] = [.int .u8 ((x2 : Int) / 4294967296 % 256)] := by simp [Lib.byteCells]
          rw [e]
          exact cells_new_at (by simp) _ _
        case c1 => have := Hlen.out; omega
        case c2 => simp; omega
        intro v' w2 hown2 hg2
        have hr := ref_round HB.out HC.out Hown.out hown2 hg2
        clear hown2 hg2
        go_wp2
        refine ⟨⟨kk + 1, m - 1, by have := HK.out; omega, by rw [show (((m - 1 : Nat) : Int) - 1) = 19 from by omega], ?_, hr.2⟩, by simp [RowKit.intOf]⟩
        have e := HBS.out kk (by have := HK.out; omega)
        rw [HK.out, Hl.out] at e
        obtain ⟨_, _, y2, _⟩ := HX.out
        simp only [Nat.reduceDiv, Nat.reduceSub, Nat.reduceMod, Nat.reduceMul, Nat.reducePow, y2] at e
        rw [HK.out, e]
        exact hr.1
      · have HK := Lib.hid hkk
        have hm : (m : Int) - 1 = 19 := by omega
        rw [hm]
        clear hkk hm
        have hown2 := OwnB.alloc Hown.out (.cells #[.int .u8 ((x2 : Int) / 16777216 % 256)] 5)
        have Hown2 := Lib.hid hown2
        clear hown2
        go_wp2_with (at_builtin; refine wpList_appendB rfl _ _ 91 rfl (w.heap.size + 1) 5 Tryd.underlying91 infoByteW _ l rfl Hown2.out ⟨wr.heap.size, 0, none⟩ 1 1 [UInt8.ofNat (x2 / 16777216)] rfl rfl ?c0 ?c1 ?c2 ?_)
        case c0 =>
          have e : Lib.byteCells [UInt8.ofNat (x2 / 16777216)] = [.int .u8 ((x2 : Int) / 16777216 % 256)] := by simp [Lib.byteCells]
          rw [e]
          exact cells_new_at (by simp) _ _
        case c1 => have := Hlen.out; omega
        case c2 => simp; omega
        intro v' w2 hown2 hg2
        have hr := ref_round HB.out HC.out Hown.out hown2 hg2
        clear hown2 hg2
        go_wp2
        refine ⟨⟨kk + 1, m - 1, by have := HK.out; omega, by rw [show (((m - 1 : Nat) : Int) - 1) = 18 from by omega], ?_, hr.2⟩, by simp [RowKit.intOf]⟩
        have e := HBS.out kk (by have := HK.out; omega)
        rw [HK.out, Hl.out] at e
        obtain ⟨_, _, y2, _⟩ := HX.out
        simp only [Nat.reduceDiv, Nat.reduceSub, Nat.reduceMod, Nat.reduceMul, Nat.reducePow, y2] at e
        rw [HK.out, e]
        exact hr.1
      · have HK := Lib.hid hkk
        have hm : (m : Int) - 1 = 18 := by omega
        rw [hm]
        clear hkk hm
        have hown2 := OwnB.alloc Hown.out (.cells #[.int .u8 ((x2 : Int) / 65536 % 256)] 5)
        have Hown2 := Lib.hid hown2
        clear hown2
        go_wp2_with (at_builtin; refine wpList_appendB rfl _ _ 91 rfl (w.heap.size + 1) 5 Tryd.underlying91 infoByteW _ l rfl Hown2.out ⟨wr.heap.size, 0, none⟩ 1 1 [UInt8.ofNat (x2 / 65536)] rfl rfl ?c0 ?c1 ?c2 ?_)
        case c0 =>
          have e : Lib.byteCells [UInt8.ofNat (x2 / 65536)] = [.int .u8 ((x2 : Int) / 65536 % 256)] := by simp [Lib.byteCells]
          rw [e]
          exact cells_new_at (by simp) _ _
        case c1 => have := Hlen.out; omega
        case c2 => simp; omega
        intro v' w2 hown2 hg2
        have hr := ref_round HB.out HC.out Hown.out hown2 hg2
        clear hown2 hg2
        go_wp2
        refine ⟨⟨kk + 1, m - 1, by have := HK.out; omega, by rw [show (((m - 1 : Nat) : Int) - 1) = 17 from by omega], ?_, hr.2⟩, by simp [RowKit.intOf]⟩
        have e := HBS.out kk (by have := HK.out; omega)
        rw [HK.out, Hl.out] at e
        obtain ⟨_, _, y2, _⟩ := HX.out
        simp only [Nat.reduceDiv, Nat.reduceSub, Nat.reduceMod, Nat.reduceMul, Nat.reducePow, y2] at e
        rw [HK.out, e]
        exact hr.1
      · have HK := Lib.hid hkk
        have hm : (m : Int) - 1 = 17 := by omega
        rw [hm]
        clear hkk hm
        have hown2 := OwnB.alloc Hown.out (.cells #[.int .u8 ((x2 : Int) / 256 % 256)] 5)
        have Hown2 := Lib.hid hown2
        clear hown2
        go_wp2_with (at_builtin; refine wpList_appendB rfl _ _ 91 rfl (w.heap.size + 1) 5 Tryd.underlying91 infoByteW _ l rfl Hown2.out ⟨wr.heap.size, 0, none⟩ 1 1 [UInt8.ofNat (x2 / 256)] rfl rfl ?c0 ?c1 ?c2 ?_)
        case c0 =>
          have e : Lib.byteCells [UInt8.ofNat (x2 / 256)] = [.int .u8 ((x2 : Int) / 256 % 256)] := by simp [Lib.byteCells]
          rw [e]
          exact cells_new_at (by simp) _ _
        case c1 => have := Hlen.out; omega
        case c2 => simp; omega
        intro v' w2 hown2 hg2
        have hr := ref_round HB.out HC.out Hown.out hown2 hg2
        clear hown2 hg2
        go_wp2
        refine ⟨⟨kk + 1, m - 1, by have := HK.out; omega, by rw [show (((m - 1 : Nat) : Int) - 1) = 16 from by omega], ?_, hr.2⟩, by simp [RowKit.intOf]⟩
        have e := HBS.out kk (by have := HK.out; omega)
        rw [HK.out, Hl.out] at e
        obtain ⟨_, _, y2, _⟩ := HX.out
        simp only [Nat.reduceDiv, Nat.reduceSub, Nat.reduceMod, Nat.reduceMul, Nat.reducePow, y2] at e
        rw [HK.out, e]
        exact hr.1
      · have HK := Lib.hid hkk
        have hm : (m : Int) - 1 = 16 := by omega
        rw [hm]
        clear hkk hm
        have hown2 := OwnB.alloc Hown.out (.cells #[.int .u8 ((x2 : Int) % 256)] 5)
        have Hown2 := Lib.hid hown2
        clear hown2
        go_wp2_with (at_builtin; refine wpList_appendB rfl _ _ 91 rfl (w.heap.size + 1) 5 Tryd.underlying91 infoByteW _ l rfl Hown2.out ⟨wr.heap.size, 0, none⟩ 1 1 [UInt8.ofNat (x2)] rfl rfl ?c0 ?c1 ?c2 ?_)
        case c0 =>
          have e : Lib.byteCells [UInt8.ofNat (x2)] = [.int .u8 ((x2 : Int) % 256)] := by simp [Lib.byteCells]
          rw [e]
          exact cells_new_at (by simp) _ _
        case c1 => have := Hlen.out; omega
        case c2 => simp; omega
        intro v' w2 hown2 hg2
        have hr := ref_round HB.out HC.out Hown.out hown2 hg2
        clear hown2 hg2
        go_wp2
        refine ⟨⟨kk + 1, m - 1, by have := HK.out; omega, by rw [show (((m - 1 : Nat) : Int) - 1) = 15 from by omega], ?_, hr.2⟩, by simp [RowKit.intOf]⟩
        have e := HBS.out kk (by have := HK.out; omega)
        rw [HK.out, Hl.out] at e
        obtain ⟨_, _, y2, _⟩ := HX.out
        simp only [Nat.reduceDiv, Nat.reduceSub, Nat.reduceMod, Nat.reduceMul, Nat.reducePow, y2, Nat.div_one] at e
        rw [HK.out, e]
        exact hr.1
      · have HK := Lib.hid hkk
        have hm : (m : Int) - 1 = 15 := by omega
        rw [hm]
        clear hkk hm
        have hown2 := OwnB.alloc Hown.out (.cells #[.int .u8 ((x1 : Int) / 72057594037927936 % 256)] 5)
        have Hown2 := Lib.hid hown2
        clear hown2
        go_wp2_with (at_builtin; refine wpList_appendB rfl _ _ 91 rfl (w.heap.size + 1) 5 Tryd.underlying91 infoByteW _ l rfl Hown2.out ⟨wr.heap.size, 0, none⟩ 1 1 [UInt8.ofNat (x1 / 72057594037927936)] rfl rfl ?c0 ?c1 ?c2 ?_)
        case c0 =>
          have e : Lib.byteCells [UInt8.ofNat (x1 / 72057594037927936)] = [.int .u8 ((x1 : Int) / 72057594037927936 % 256)] := by simp [Lib.byteCells]
          rw [e]
          exact cells_new_at (by simp) _ _
        case c1 => have := Hlen.out; omega
        case c2 => simp; omega
        intro v' w2 hown2 hg2
        have hr := ref_round HB.out HC.out Hown.out hown2 hg2
        clear hown2 hg2
        go_wp2
        refine ⟨⟨kk + 1, m - 1, by have := HK.out; omega, by rw [show (((m - 1 : Nat) : Int) - 1) = 14 from by omega], ?_, hr.2⟩, by simp [RowKit.intOf]⟩
        have e := HBS.out kk (by have := HK.out; omega)
        rw [HK.out, Hl.out] at e
        obtain ⟨_, y1, _, _⟩ := HX.out
        simp only [Nat.reduceDiv, Nat.reduceSub, Nat.reduceMod, Nat.reduceMul, Nat.reducePow, y1] at e
        rw [HK.out, e]
        exact hr.1
      · have HK := Lib.hid hkk
        have hm : (m : Int) - 1 = 14 := by omega
        rw [hm]
        clear hkk hm
        have hown2 := OwnB.alloc Hown.out (.cells #[.int .u8 ((x1 : Int) / 281474976710656 % 256)] 5)
        have Hown2 := Lib.hid hown2
        clear hown2
        go_wp2_with (at_builtin; refine wpList_appendB rfl _ _ 91 rfl (w.heap.size + 1) 5 Tryd.underlying91 infoByteW _ l rfl Hown2.out ⟨wr.heap.size, 0, none⟩ 1 1 [UInt8.ofNat (x1 / 281474976710656)] rfl rfl ?c0 ?c1 ?c2 ?_)
        case c0 =>
          have e : Lib.byteCells [UInt8.ofNat (x1 / 281474976710656)] = [.int .u8 ((x1 : Int) / 281474976710656 % 256)] := by simp [Lib.byteCells]
          rw [e]
          exact cells_new_at (by simp) _ _
        case c1 => have := Hlen.out; omega
        case c2 => simp; omega
        intro v' w2 hown2 hg2
        have hr := ref_round HB.out HC.out Hown.out hown2 hg2
        clear hown2 hg2
        go_wp2
        refine ⟨⟨kk + 1, m - 1, by have := HK.out; omega, by rw [show (((m - 1 : Nat) : Int) - 1) = 13 from by omega], ?_, hr.2⟩, by simp [RowKit.intOf]⟩
        have e := HBS.out kk (by have := HK.out; omega)
        rw [HK.out, Hl.out] at e
        obtain ⟨_, y1, _, _⟩ := HX.out
        simp only [Nat.reduceDiv, Nat.reduceSub, Nat.reduceMod, Nat.reduceMul, Nat.reducePow, y1] at e
        rw [HK.out, e]
        exact hr.1
      · have HK := Lib.hid hkk
        have hm : (m : Int) - 1 = 13 := by omega
        rw [hm]
        clear hkk hm
        have hown2 := OwnB.alloc Hown.out (.cells #[.int .u8 ((x1 : Int) / 1099511627776 % 256)] 5)
        have Hown2 := Lib.hid hown2
        clear hown2
        go_wp2_with (at_builtin; refine wpList_appendB rfl _ _ 91 rfl (w.heap.size + 1) 5 Tryd.underlying91 infoByteW _ l rfl Hown2.out ⟨wr.heap.size, 0, none⟩ 1 1 [UInt8.ofNat (x1 / 1099511627776)] rfl rfl ?c0 ?c1 ?c2 ?_)
        case c0 =>
          have e : Lib.byteCells [UInt8.ofNat (x1 / 1099511627776)] = [.int .u8 ((x1 : Int) / 1099511627776 % 256)] := by simp [Lib.byteCells]
          rw [e]
          exact cells_new_at (by simp) _ _
        case c1 => have := Hlen.out; omega
        case c2 => simp; omega
        intro v' w2 hown2 hg2
        have hr := ref_round HB.out HC.out Hown.out hown2 hg2
        clear hown2 hg2
        go_wp2
        refine ⟨⟨kk + 1, m - 1, by have := HK.out; omega, by rw [show (((m - 1 : Nat) : Int) - 1) = 12 from by omega], ?_, hr.2⟩, by simp [RowKit.intOf]⟩
        have e := HBS.out kk (by have := HK.out; omega)
        rw [HK.out, Hl.out] at e
        obtain ⟨_, y1, _, _⟩ := HX.out
        simp only [Nat.reduceDiv, Nat.reduceSub, Nat.reduceMod, Nat.reduceMul, Nat.reducePow, y1] at e
        rw [HK.out, e]
        exact hr.1
      · have HK := Lib.hid hkk
        have hm : (m : Int) - 1 = 12 := by omega
        rw [hm]
        clear hkk hm
        have hown2 := OwnB.alloc Hown.out (.cells #[.int .u8 ((x1 : Int) / 4294967296 % 256)] 5)
        have Hown2 := Lib.hid hown2
        clear hown2
        go_wp2_with (at_builtin; refine wpList_appendB rfl _ _ 91 rfl (w.heap.size + 1) 5 Tryd.underlying91 infoByteW _ l rfl Hown2.out ⟨wr.heap.size, 0, none⟩ 1 1 [UInt8.ofNat (x1 / 4294967296)] rfl rfl ?c0 ?c1 ?c2 ?_)
        case c0 =>
          have e : Lib.byteCells [UInt8.ofNat (x1 / 4294967296)] = [.int .u8 ((x1 : Int) / 4294967296 % 256)] := by simp [Lib.byteCells]
          rw [e]
          exact cells_new_at (by simp) _ _
        case c1 => have := Hlen.out; omega
        case c2 => simp; omega
        intro v' w2 hown2 hg2
        have hr := ref_round HB.out HC.out Hown.out hown2 hg2
        clear hown2 hg2
        go_wp2
        refine ⟨⟨kk + 1, m - 1, by have := HK.out; omega, by rw [show (((m - 1 : Nat) : Int) - 1) = 11 from by omega], ?_, hr.2⟩, by simp [RowKit.intOf]⟩
        have e := HBS.out kk (by have := HK.out; omega)
        rw [HK.out, Hl.out] at e
        obtain ⟨_, y1, _, _⟩ := HX.out
        simp only [Nat.reduceDiv, Nat.reduceSub, Nat.reduceMod, Nat.reduceMul, Nat.reducePow, y1] at e
        rw [HK.out, e]
        exact hr.1
      · have HK := Lib.hid hkk
        have hm : (m : Int) - 1 = 11 := by omega
        rw [hm]
        clear hkk hm
        have hown2 := OwnB.alloc Hown.out (.cells #[.int .u8 ((x1 : Int) / 16777216 % 256)] 5)
        have Hown2 := Lib.hid hown2
        clear hown2
        go_wp2_with (at_builtin; refine wpList_appendB rfl _ _ 91 rfl (w.heap.size + 1) 5 Tryd.underlying91 infoByteW _ l rfl Hown2.out ⟨wr.heap.size, 0, none⟩ 1 1 [UInt8.ofNat (x1 / 16777216)] rfl rfl ?c0 ?c1 ?c2 ?_)
        case c0 =>
          have e : Lib.byteCells [UInt8.ofNat (x1 / 16777216)] = [.int .u8 ((x1 : Int) / 16777216 % 256)] := by simp [Lib.byteCells]
          rw [e]
          exact cells_new_at (by simp) _ _
        case c1 => have := Hlen.out; omega
        case c2 => simp; omega
        intro v' w2 hown2 hg2
        have hr := ref_round HB.out HC.out Hown.out hown2 hg2
        clear hown2 hg2
        go_wp2
        refine ⟨⟨kk + 1, m - 1, by have := HK.out; omega, by rw [show (((m - 1 : Nat) : Int) - 1) = 10 from by omega], ?_, hr.2⟩, by simp [RowKit.intOf]⟩
        have e := HBS.out kk (by have := HK.out; omega)
        rw [HK.out, Hl.out] at e
        obtain ⟨_, y1, _, _⟩ := HX.out
        simp only [Nat.reduceDiv, Nat.reduceSub, Nat.reduceMod, Nat.reduceMul, Nat.reducePow, y1] at e
        rw [HK.out, e]
        exact hr.1
      · have HK := Lib.hid hkk
        have hm : (m : Int) - 1 = 10 := by omega
        rw [hm]
        clear hkk hm
        have hown2 := OwnB.alloc Hown.out (.cells #[.int .u8 ((x1 : Int) / 65536 % 256)] 5)
        have Hown2 := Lib.hid hown2
        clear hown2
        go_wp2_with (at_builtin; refine wpList_appendB rfl _ _ 91 rfl (w.heap.size + 1) 5 Tryd.underlying91 infoByteW _ l rfl Hown2.out ⟨wr.heap.size, 0, none⟩ 1 1 [UInt8.ofNat (x1 / 65536)] rfl rfl ?c0 ?c1 ?c2 ?_)
        case c0 =>
          have e : Lib.byteCells [UInt8.ofNat (x1 / 65536)] = [.int .u8 ((x1 : Int) / 65536 % 256)] := by simp [Lib.byteCells]
          rw [e]
          exact cells_new_at (by simp) _ _
        case c1 => have := Hlen.out; omega
        case c2 => simp; omega
        intro v' w2 hown2 hg2
        have hr := ref_round HB.out HC.out Hown.out hown2 hg2
        clear hown2 hg2
        go_wp2
        refine ⟨⟨kk + 1, m - 1, by have := HK.out; omega, by rw [show (((m - 1 : Nat) : Int) - 1) = 9 from by omega], ?_, hr.2⟩, by simp [RowKit.intOf]⟩
        have e := HBS.out kk (by have := HK.out; omega)
        rw [HK.out, Hl.out] at e
        obtain ⟨_, y1, _, _⟩ := HX.out
        simp only [Nat.reduceDiv, Nat.reduceSub, Nat.reduceMod, Nat.reduceMul, Nat.reducePow, y1] at e
        rw [HK.out, e]
        exact hr.1
      · have HK := Lib.hid hkk
        have hm : (m : Int) - 1 = 9 := by omega
        rw [hm]
        clear hkk hm
        have hown2 := OwnB.alloc Hown.out (.cells #[.int .u8 ((x1 : Int) / 256 % 256)] 5)
        have Hown2 := Lib.hid hown2
        clear hown2
        go_wp2_with (at_builtin; refine wpList_appendB rfl _ _ 91 rfl (w.heap.size + 1) 5 Tryd.underlying91 infoByteW _ l rfl Hown2.out ⟨wr.heap.size, 0, none⟩ 1 1 [UInt8.ofNat (x1 / 256)] rfl rfl ?c0 ?c1 ?c2 ?_)
        case c0 =>
          have e : Lib.byteCells [UInt8.ofNat (x1 / 256)] = [.int .u8 ((x1 : Int) / 256 % 256)] := by simp [Lib.byteCells]
          rw [e]
          exact cells_new_at (by simp) _ _
        case c1 => have := Hlen.out; omega
        case c2 => simp; omega
        intro v' w2 hown2 hg2
        have hr := ref_round HB.out HC.out Hown.out hown2 hg2
        clear hown2 hg2
        go_wp2
        refine ⟨⟨kk + 1, m - 1, by have := HK.out; omega, by rw [show (((m - 1 : Nat) : Int) - 1) = 8 from by omega], ?_, hr.2⟩, by simp [RowKit.intOf]⟩
        have e := HBS.out kk (by have := HK.out; omega)
        rw [HK.out, Hl.out] at e
        obtain ⟨_, y1, _, _⟩ := HX.out
        simp only [Nat.reduceDiv, Nat.reduceSub, Nat.reduceMod, Nat.reduceMul, Nat.reducePow, y1] at e
        rw [HK.out, e]
        exact hr.1
      · have HK := Lib.hid hkk
        have hm : (m : Int) - 1 = 8 := by omega
        rw [hm]
        clear hkk hm
        have hown2 := OwnB.alloc Hown.out (.cells #[.int .u8 ((x1 : Int) % 256)] 5)
        have Hown2 := Lib.hid hown2
        clear hown2
        go_wp2_with (at_builtin; refine wpList_appendB rfl _ _ 91 rfl (w.heap.size + 1) 5 Tryd.underlying91 infoByteW _ l rfl Hown2.out ⟨wr.heap.size, 0, none⟩ 1 1 [UInt8.ofNat (x1)] rfl rfl ?c0 ?c1 ?c2 ?_)
        case c0 =>
          have e : Lib.byteCells [UInt8.ofNat (x1)] = [.int .u8 ((x1 : Int) % 256)] := by simp [Lib.byteCells]
          rw [e]
          exact cells_new_at (by simp) _ _
        case c1 => have := Hlen.out; omega
        case c2 => simp; omega
        intro v' w2 hown2 hg2
        have hr := ref_round HB.out HC.out Hown.out hown2 hg2
        clear hown2 hg2
        go_wp2
        refine ⟨⟨kk + 1, m - 1, by have := HK.out; omega, by rw [show (((m - 1 : Nat) : Int) - 1) = 7 from by omega], ?_, hr.2⟩, by simp [RowKit.intOf]⟩
        have e := HBS.out kk (by have := HK.out; omega)
        rw [HK.out, Hl.out] at e
        obtain ⟨_, y1, _, _⟩ := HX.out
        simp only [Nat.reduceDiv, Nat.reduceSub, Nat.reduceMod, Nat.reduceMul, Nat.reducePow, y1, Nat.div_one] at e
        rw [HK.out, e]
        exact hr.1
      · have HK := Lib.hid hkk
        have hm : (m : Int) - 1 = 7 := by omega
        rw [hm]
        clear hkk hm
        have hown2 := OwnB.alloc Hown.out (.cells #[.int .u8 ((x0 : Int) / 72057594037927936 % 256)] 5)
        have Hown2 := Lib.hid hown2
        clear hown2
        go_wp2_with (at_builtin; refine wpList_appendB rfl _ _ 91 rfl (w.heap.size + 1) 5 Tryd.underlying91 infoByteW _ l rfl Hown2.out ⟨wr.heap.size, 0, none⟩ 1 1 [UInt8.ofNat (x0 / 72057594037927936)] rfl rfl ?c0 ?c1 ?c2 ?_)
        case c0 =>
          have e : Lib.byteCells [UInt8.ofNat (x0 / 72057594037927936)] = [.int .u8 ((x0 : Int) / 72057594037927936 % 256)] := by simp [Lib.byteCells]
          rw [e]
          exact cells_new_at (by simp) _ _
        case c1 => have := Hlen.out; omega
        case c2 => simp; omega
        intro v' w2 hown2 hg2
        have hr := ref_round HB.out HC.out Hown.out hown2 hg2
        clear hown2 hg2
        go_wp2
        refine ⟨⟨kk + 1, m - 1, by have := HK.out; omega, by rw [show (((m - 1 : Nat) : Int) - 1) = 6 from by omega], ?_, hr.2⟩, by simp [RowKit.intOf]⟩
        have e := HBS.out kk (by have := HK.out; omega)
        rw [HK.out, Hl.out] at e
        obtain ⟨y0, _, _, _⟩ := HX.out
        simp only [Nat.reduceDiv, Nat.reduceSub, Nat.reduceMod, Nat.reduceMul, Nat.reducePow, y0] at e
        rw [HK.out, e]
        exact hr.1
      · have HK := Lib.hid hkk
        have hm : (m : Int) - 1 = 6 := by omega
        rw [hm]
        clear hkk hm
        have hown2 := OwnB.alloc Hown.out (.cells #[.int .u8 ((x0 : Int) / 281474976710656 % 256)] 5)
        have Hown2 := Lib.hid hown2
        clear hown2
        go_wp2_with (at_builtin; refine wpList_appendB rfl _ _ 91 rfl (w.heap.size + 1) 5 Tryd.underlying91 infoByteW _ l rfl Hown2.out ⟨wr.heap.size, 0, none⟩ 1 1 [UInt8.ofNat (x0 / 281474976710656)] rfl rfl ?c0 ?c1 ?c2 ?_)
        case c0 =>
          have e : Lib.byteCells [UInt8.ofNat (x0 / 281474976710656)] = [.int .u8 ((x0 : Int) / 281474976710656 % 256)] := by simp [Lib.byteCells]
          rw [e]
          exact cells_new_at (by simp) _ _
        case c1 => have := Hlen.out; omega
        case c2 => simp; omega
        intro v' w2 hown2 hg2
        have hr := ref_round HB.out HC.out Hown.out hown2 hg2
        clear hown2 hg2
        go_wp2
        refine ⟨⟨kk + 1, m - 1, by have := HK.out; omega, by rw [show (((m - 1 : Nat) : Int) - 1) = 5 from by omega], ?_, hr.2⟩, by simp [RowKit.intOf]⟩
        have e := HBS.out kk (by have := HK.out; omega)
        rw [HK.out, Hl.out] at e
        obtain ⟨y0, _, _, _⟩ := HX.out
        simp only [Nat.reduceDiv, Nat.reduceSub, Nat.reduceMod, Nat.reduceMul, Nat.reducePow, y0] at e
        rw [HK.out, e]
        exact hr.1
      · have HK := Lib.hid hkk
        have hm : (m : Int) - 1 = 5 := by omega
        rw [hm]
        clear hkk hm
        have hown2 := OwnB.alloc Hown.out (.cells #[.int .u8 ((x0 : Int) / 1099511627776 % 256)] 5)
        have Hown2 := Lib.hid hown2
        clear hown2
        go_wp2_with (at_builtin; refine wpList_appendB rfl _ _ 91 rfl (w.heap.size + 1) 5 Tryd.underlying91 infoByteW _ l rfl Hown2.out ⟨wr.heap.size, 0, none⟩ 1 1 [UInt8.ofNat (x0 / 1099511627776)] rfl rfl ?c0 ?c1 ?c2 ?_)
        case c0 =>
          have e : Lib.byteCells [UInt8.ofNat (x0 / 1099511627776)] = [.int .u8 ((x0 : Int) / 1099511627776 % 256)] := by simp [Lib.byteCells]
          rw [e]
          exact cells_new_at (by simp) _ _
        case c1 => have := Hlen.out; omega
        case c2 => simp; omega
        intro v' w2 hown2 hg2
        have hr := ref_round HB.out HC.out Hown.out hown2 hg2
        clear hown2 hg2
        go_wp2
        refine ⟨⟨kk + 1, m - 1, by have := HK.out; omega, by rw [show (((m - 1 : Nat) : Int) - 1) = 4 from by omega], ?_, hr.2⟩, by simp [RowKit.intOf]⟩
        have e := HBS.out kk (by have := HK.out; omega)
        rw [HK.out, Hl.out] at e
        obtain ⟨y0, _, _, _⟩ := HX.out
        simp only [Nat.reduceDiv, Nat.reduceSub, Nat.reduceMod, Nat.reduceMul, Nat.reducePow, y0] at e
        rw [HK.out, e]
        exact hr.1
      · have HK := Lib.hid hkk
        have hm : (m : Int) - 1 = 4 := by omega
        rw [hm]
        clear hkk hm
        have hown2 := OwnB.alloc Hown.out (.cells #[.int .u8 ((x0 : Int) / 4294967296 % 256)] 5)
        have Hown2 := Lib.hid hown2
        clear hown2
        go_wp2_with (at_builtin; refine wpList_appendB rfl _ _ 91 rfl (w.heap.size + 1) 5 Tryd.underlying91 infoByteW _ l rfl Hown2.out ⟨wr.heap.size, 0, none⟩ 1 1 [UInt8.ofNat (x0 / 4294967296)] rfl rfl ?c0 ?c1 ?c2 ?_)
        case c0 =>
          have e : Lib.byteCells [UInt8.ofNat (x0 / 4294967296)] = [.int .u8 ((x0 : Int) / 4294967296 % 256)] := by simp [Lib.byteCells]
          rw [e]
          exact cells_new_at (by simp) _ _
        case c1 => have := Hlen.out; omega
        case c2 => simp; omega
        intro v' w2 hown2 hg2
        have hr := ref_round HB.out HC.out Hown.out hown2 hg2
        clear hown2 hg2
        go_wp2
        refine ⟨⟨kk + 1, m - 1, by have := HK.out; omega, by rw [show (((m - 1 : Nat) : Int) - 1) = 3 from by omega], ?_, hr.2⟩, by simp [RowKit.intOf]⟩
        have e := HBS.out kk (by have := HK.out; omega)
        rw [HK.out, Hl.out] at e
        obtain ⟨y0, _, _, _⟩ := HX.out
        simp only [Nat.reduceDiv, Nat.reduceSub, Nat.reduceMod, Nat.reduceMul, Nat.reducePow, y0] at e
        rw [HK.out, e]
        exact hr.1
      · have HK := Lib.hid hkk
        have hm : (m : Int) - 1 = 3 := by omega
        rw [hm]
        clear hkk hm
        have hown2 := OwnB.alloc Hown.out (.cells #[.int .u8 ((x0 : Int) / 16777216 % 256)] 5)
        have Hown2 := Lib.hid hown2
        clear hown2
        go_wp2_with (at_builtin; refine wpList_appendB rfl _ _ 91 rfl (w.heap.size + 1) 5 Tryd.underlying91 infoByteW _ l rfl Hown2.out ⟨wr.heap.size, 0, none⟩ 1 1 [UInt8.ofNat (x0 / 16777216)] rfl rfl ?c0 ?c1 ?c2 ?_)
        case c0 =>
          have e : Lib.byteCells [UInt8.ofNat (x0 / 16777216)] = [.int .u8 ((x0 : Int) / 16777216 % 256)] := by simp [Lib.byteCells]
          rw [e]
          exact cells_new_at (by simp) _ _
        case c1 => have := Hlen.out; omega
        case c2 => simp; omega
        intro v' w2 hown2 hg2
        have hr := ref_round HB.out HC.out Hown.out hown2 hg2
        clear hown2 hg2
        go_wp2
        refine ⟨⟨kk + 1, m - 1, by have := HK.out; omega, by rw [show (((m - 1 : Nat) : Int) - 1) = 2 from by omega], ?_, hr.2⟩, by simp [RowKit.intOf]⟩
        have e := HBS.out kk (by have := HK.out; omega)
        rw [HK.out, Hl.out] at e
        obtain ⟨y0, _, _, _⟩ := HX.out
        simp only [Nat.reduceDiv, Nat.reduceSub, Nat.reduceMod, Nat.reduceMul, Nat.reducePow, y0] at e
        rw [HK.out, e]
        exact hr.1
      · have HK := Lib.hid hkk
        have hm : (m : Int) - 1 = 2 := by omega
        rw [hm]
        clear hkk hm
        have hown2 := OwnB.alloc Hown.out (.cells #[.int .u8 ((x0 : Int) / 65536 % 256)] 5)
        have Hown2 := Lib.hid hown2
        clear hown2
        go_wp2_with (at_builtin; refine wpList_appendB rfl _ _ 91 rfl (w.heap.size + 1) 5 Tryd.underlying91 infoByteW _ l rfl Hown2.out ⟨wr.heap.size, 0, none⟩ 1 1 [UInt8.ofNat (x0 / 65536)] rfl rfl ?c0 ?c1 ?c2 ?_)
        case c0 =>
          have e : Lib.byteCells [UInt8.ofNat (x0 / 65536)] = [.int .u8 ((x0 : Int) / 65536 % 256)] := by simp [Lib.byteCells]
          rw [e]
          exact cells_new_at (by simp) _ _
        case c1 => have := Hlen.out; omega
        case c2 => simp; omega
        intro v' w2 hown2 hg2
        have hr := ref_round HB.out HC.out Hown.out hown2 hg2
        clear hown2 hg2
        go_wp2
        refine ⟨⟨kk + 1, m - 1, by have := HK.out; omega, by rw [show (((m - 1 : Nat) : Int) - 1) = 1 from by omega], ?_, hr.2⟩, by simp [RowKit.intOf]⟩
        have e := HBS.out kk (by have := HK.out; omega)
        rw [HK.out, Hl.out] at e
        obtain ⟨y0, _, _, _⟩ := HX.out
        simp only [Nat.reduceDiv, Nat.reduceSub, Nat.reduceMod, Nat.reduceMul, Nat.reducePow, y0] at e
        rw [HK.out, e]
        exact hr.1
      · have HK := Lib.hid hkk
        have hm : (m : Int) - 1 = 1 := by omega
        rw [hm]
        clear hkk hm
        have hown2 := OwnB.alloc Hown.out (.cells #[.int .u8 ((x0 : Int) / 256 % 256)] 5)
        have Hown2 := Lib.hid hown2
        clear hown2
        go_wp2_with (at_builtin; refine wpList_appendB rfl _ _ 91 rfl (w.heap.size + 1) 5 Tryd.underlying91 infoByteW _ l rfl Hown2.out ⟨wr.heap.size, 0, none⟩ 1 1 [UInt8.ofNat (x0 / 256)] rfl rfl ?c0 ?c1 ?c2 ?_)
        case c0 =>
          have e : Lib.byteCells [UInt8.ofNat (x0 / 256)] = [.int .u8 ((x0 : Int) / 256 % 256)] := by simp [Lib.byteCells]
          rw [e]
          exact cells_new_at (by simp) _ _
        case c1 => have := Hlen.out; omega
        case c2 => simp; omega
        intro v' w2 hown2 hg2
        have hr := ref_round HB.out HC.out Hown.out hown2 hg2
        clear hown2 hg2
        go_wp2
        refine ⟨⟨kk + 1, m - 1, by have := HK.out; omega, by rw [show (((m - 1 : Nat) : Int) - 1) = 0 from by omega], ?_, hr.2⟩, by simp [RowKit.intOf]⟩
        have e := HBS.out kk (by have := HK.out; omega)
        rw [HK.out, Hl.out] at e
        obtain ⟨y0, _, _, _⟩ := HX.out
        simp only [Nat.reduceDiv, Nat.reduceSub, Nat.reduceMod, Nat.reduceMul, Nat.reducePow, y0] at e
        rw [HK.out, e]
        exact hr.1
      · have HK := Lib.hid hkk
        have hm : (m : Int) - 1 = 0 := by omega
        rw [hm]
        clear hkk hm
        have hown2 := OwnB.alloc Hown.out (.cells #[.int .u8 ((x0 : Int) % 256)] 5)
        have Hown2 := Lib.hid hown2
        clear hown2
        go_wp2_with (at_builtin; refine wpList_appendB rfl _ _ 91 rfl (w.heap.size + 1) 5 Tryd.underlying91 infoByteW _ l rfl Hown2.out ⟨wr.heap.size, 0, none⟩ 1 1 [UInt8.ofNat (x0)] rfl rfl ?c0 ?c1 ?c2 ?_)
        case c0 =>
          have e : Lib.byteCells [UInt8.ofNat (x0)] = [.int .u8 ((x0 : Int) % 256)] := by simp [Lib.byteCells]
          rw [e]
          exact cells_new_at (by simp) _ _
        case c1 => have := Hlen.out; omega
        case c2 => simp; omega
        intro v' w2 hown2 hg2
        have hr := ref_round HB.out HC.out Hown.out hown2 hg2
        clear hown2 hg2
        go_wp2
        refine ⟨⟨kk + 1, m - 1, by have := HK.out; omega, by rw [show (((m - 1 : Nat) : Int) - 1) = -1 from by omega], ?_, hr.2⟩, by simp [RowKit.intOf]⟩
        have e := HBS.out kk (by have := HK.out; omega)
        rw [HK.out, Hl.out] at e
        obtain ⟨y0, _, _, _⟩ := HX.out
        simp only [Nat.reduceDiv, Nat.reduceSub, Nat.reduceMod, Nat.reduceMul, Nat.reducePow, y0, Nat.div_one] at e
        rw [HK.out, e]
        exact hr.1
    · obtain rfl : m = 0 := by omega
      obtain rfl : k = 32 := by omega
      have hc := hown.str (P := Tryd.prog) Tryd.underlying91 Tryd.underlying5 Tryd.underlying9
      have hlb : l = bl := by rw [← hl, List.take_of_length_le (by rw [HBL.out]; omega)]
      have hi : (((0 : Nat) : Int) - 1) = -1 := by omega
      rw [hi]
      have HLB := Lib.hid hlb
      clear hown hl hlen hlb
      go_wp2
      go_ret
      exact ⟨by rw [HLB.out]; rfl, hB⟩
end Go.Proofs.YtmjblnhnadffmaaDoor
