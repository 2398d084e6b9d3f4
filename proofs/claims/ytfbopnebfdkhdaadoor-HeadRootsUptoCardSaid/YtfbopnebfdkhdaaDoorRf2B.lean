/- Contract of pharosref02.take: a block is taken in. -/
import Derived.Test.YtfbopnebfdkhdaaDoorRf2A
namespace Go.Proofs.YtfbopnebfdkhdaaDoor
open Go.RowKit
theorem wv_notM (x : UInt32) : bits .xor .u32 IntKind.u32.max (wv x) = wv (~~~x) := wv_not x
theorem wv_add4 (a b c d : UInt32) : (wv a + wv b + wv c + wv d) % 4294967296 = wv (((a + b) + c) + d) := by
  have h1 := wv_add a b
  have h2 := wv_add (a + b) c
  have h3 := wv_add ((a + b) + c) d
  omega
theorem wv_add4w (a b c d : UInt32) : IntKind.u32.wrap (wv a + wv b + wv c + wv d) = wv (((a + b) + c) + d) := (IntKind.wrap_u32 _).trans (wv_add4 a b c d)
theorem zero64 (w : World) : Row32 (w.alloc (.cells #[.int .u32 0, .int .u32 0, .int .u32 0, .int .u32 0, .int .u32 0, .int .u32 0, .int .u32 0, .int .u32 0, .int .u32 0, .int .u32 0, .int .u32 0, .int .u32 0, .int .u32 0, .int .u32 0, .int .u32 0, .int .u32 0, .int .u32 0, .int .u32 0, .int .u32 0, .int .u32 0, .int .u32 0, .int .u32 0, .int .u32 0, .int .u32 0, .int .u32 0, .int .u32 0, .int .u32 0, .int .u32 0, .int .u32 0, .int .u32 0, .int .u32 0, .int .u32 0, .int .u32 0, .int .u32 0, .int .u32 0, .int .u32 0, .int .u32 0, .int .u32 0, .int .u32 0, .int .u32 0, .int .u32 0, .int .u32 0, .int .u32 0, .int .u32 0, .int .u32 0, .int .u32 0, .int .u32 0, .int .u32 0, .int .u32 0, .int .u32 0, .int .u32 0, .int .u32 0, .int .u32 0, .int .u32 0, .int .u32 0, .int .u32 0, .int .u32 0, .int .u32 0, .int .u32 0, .int .u32 0, .int .u32 0, .int .u32 0, .int .u32 0, .int .u32 0] 140)) w.heap.size (List.replicate 64 0) := Row32.new w (List.replicate 64 0) _
theorem zero8 (w : World) : Row32 (w.alloc (.cells #[.int .u32 0, .int .u32 0, .int .u32 0, .int .u32 0, .int .u32 0, .int .u32 0, .int .u32 0, .int .u32 0] 113)) w.heap.size (List.replicate 8 0) := Row32.new w (List.replicate 8 0) _
attribute [local go_sem] wv_and wv_or wv_xor wv_not wv_notM wv_add4 wv_add4w wv_add wv_addw rotz_2 rotz_6 rotz_11 rotz_13 rotz_22 rotz_25

theorem ch_eq (e f g : UInt32) : (e &&& f) ^^^ (~~~e &&& g) = g ^^^ (e &&& (f ^^^ g)) := by
  apply UInt32.toBitVec_inj.1
  apply BitVec.eq_of_getLsbD_eq
  intro i hi
  simp only [UInt32.toBitVec_xor, UInt32.toBitVec_and, UInt32.toBitVec_not, BitVec.getLsbD_xor, BitVec.getLsbD_and, BitVec.getLsbD_not]
  cases e.toBitVec.getLsbD i <;> cases f.toBitVec.getLsbD i <;> cases g.toBitVec.getLsbD i <;> simp [hi]
theorem maj_eq (a b c : UInt32) : ((a &&& b) ^^^ (a &&& c)) ^^^ (b &&& c) = (a &&& b) ||| (c &&& (a ||| b)) := by
  apply UInt32.toBitVec_inj.1
  apply BitVec.eq_of_getLsbD_eq
  intro i hi
  simp only [UInt32.toBitVec_xor, UInt32.toBitVec_and, UInt32.toBitVec_or, BitVec.getLsbD_xor, BitVec.getLsbD_and, BitVec.getLsbD_or]
  cases a.toBitVec.getLsbD i <;> cases b.toBitVec.getLsbD i <;> cases c.toBitVec.getLsbD i <;> simp
/-- a round, as the reference reckons it -/
def St.stepR (s : St) (k w : UInt32) : St :=
  ⟨(s.h + ((rotr s.e 6 ^^^ rotr s.e 11) ^^^ rotr s.e 25) + ((s.e &&& s.f) ^^^ (~~~s.e &&& s.g)) + k + w) + (((rotr s.a 2 ^^^ rotr s.a 13) ^^^ rotr s.a 22) + (((s.a &&& s.b) ^^^ (s.a &&& s.c)) ^^^ (s.b &&& s.c))), s.a, s.b, s.c,
    s.d + (s.h + ((rotr s.e 6 ^^^ rotr s.e 11) ^^^ rotr s.e 25) + ((s.e &&& s.f) ^^^ (~~~s.e &&& s.g)) + k + w), s.e, s.f, s.g⟩
theorem stepR_eq (s : St) (k w : UInt32) : s.stepR k w = s.step k w := by
  unfold St.stepR St.step
  rw [ch_eq, maj_eq]
theorem St.list_length (s : St) : s.list.length = 8 := rfl

set_option maxRecDepth 100000 in
set_option maxHeartbeats 3200000 in
theorem rtake_any (bk o c : Nat) (s : List UInt8) (st : St) (w : World) (hs : s.length = 64) (hc : Cells8 w bk o s) :
    Calls Tryd.prog 79 #[.agg (vals32 st.list).toArray, .slice (some ⟨bk, o, none⟩) 64 c] w fun e w' => e = .returned (.agg (vals32 (st.take s).list).toArray) ∧ Below w.heap.size w w' := by
  obtain ⟨q, hq⟩ : ∃ q, st.take s = q := ⟨_, rfl⟩
  rw [hq]
  have HQ := Lib.hid hq
  clear hq
  show Calls Tryd.prog 79 #[.agg #[.int .u32 (wv st.a), .int .u32 (wv st.b), .int .u32 (wv st.c), .int .u32 (wv st.d), .int .u32 (wv st.e), .int .u32 (wv st.f), .int .u32 (wv st.g), .int .u32 (wv st.h)], .slice (some ⟨bk, o, none⟩) 64 c] w _
  have HS := Lib.hid hs
  have HC := Lib.hid hc
  clear hs hc
  have hh0 := Row32.new w st.list 113
  have hz8 := Row32.new (w.alloc (.cells (vals32 st.list).toArray 113)) (List.replicate 8 0) 113
  rw [World.size_alloc] at hz8
  have hh1 := hh0.kept (W' := (w.alloc (.cells (vals32 st.list).toArray 113)).alloc (.cells ((List.replicate 8 (0 : UInt32)).map fun x => Value.int .u32 (wv x)).toArray 113)) (Below.heap_alloc _ _ _ (by simp))
  have hb1 := ((Below.refl w.heap.size w).alloc (Nat.le_refl _) (.cells (vals32 st.list).toArray 113)).alloc (by simp) (.cells ((List.replicate 8 (0 : UInt32)).map fun x => Value.int .u32 (wv x)).toArray 113)
  have hsz : ((w.alloc (.cells (vals32 st.list).toArray 113)).alloc (.cells ((List.replicate 8 (0 : UInt32)).map fun x => Value.int .u32 (wv x)).toArray 113)).heap.size = w.heap.size + 2 := by simp
  have HH := Lib.hid hh1
  have HZ := Lib.hid hz8
  have HB := Lib.hid hb1
  have HSZ := Lib.hid hsz
  clear hh0 hz8 hh1 hb1 hsz
  go_enter Tryd.func79, Tryd.ntmps79
  go_wp2_with fail
  refine (spread_any bk o c s _ HS.out (HC.out.below HB.out)).mono ?_
  rintro e w1 ⟨rfl, hb1⟩
  have HH1 := Lib.hid (HH.out.below hb1 (by simp [St.list]))
  have HZ1 := Lib.hid (HZ.out.below hb1 (by simp))
  have hB1 := HB.out.trans (hb1.mono (by rw [HSZ.out]; omega))
  have hs1 : w.heap.size + 2 ≤ w1.heap.size := by rw [← HSZ.out]; exact hb1.size
  have HB1 := Lib.hid hB1
  clear HH HZ HB HSZ hb1 hB1
  go_wp2_with (with_reducible refine wpList_haltStore 140 _ _ rfl ?_)
  refine Halt.mk ?_
  refine wpList_store32 rfl _ _ _ rfl w1.heap.size (words1 s 64) (List.replicate 64 0) rfl rfl (zero64 w1) (by rw [words1_length]; rfl) (by rw [words1_length]; exact info64) ?_
  intro w2 hW2 hg2
  have hb2 : Below w1.heap.size w1 w2 := ((Below.refl _ _).alloc (Nat.le_refl _) _).grown hg2 (by simp) (fun r e => by cases e; exact Nat.le_refl _)
  have hs2 : w1.heap.size < w2.heap.size := block_lt_of_cell (hW2.1 0 (by rw [words1_length]; omega))
  have HH2 := Lib.hid (HH1.out.below hb2 (by simp [St.list]))
  have HZ2 := Lib.hid (HZ1.out.below hb2 (by simp))
  have HW2 := Lib.hid hW2
  have HB2 := Lib.hid (HB1.out.trans (hb2.mono (by omega)))
  clear HH1 HZ1 HB1 hW2 hg2 hb2
  go_wp2_with fail
  refine (words_any _).mono ?_
  rintro e w3 ⟨rfl, hb3⟩
  have hs3 := hb3.size
  have HH3 := Lib.hid (HH2.out.below hb3 (by simp [St.list]))
  have HZ3 := Lib.hid (HZ2.out.below hb3 (by simp))
  have HW3 := Lib.hid (HW2.out.below hb3 (by rw [words1_length]; omega))
  have HB3 := Lib.hid (HB2.out.trans (hb3.mono (by omega)))
  clear HH2 HZ2 HW2 HB2 hb3
  go_wp2_with (with_reducible refine wpList_haltStore 140 _ _ rfl ?_)
  refine Halt.mk ?_
  refine wpList_store32 rfl _ _ _ rfl w3.heap.size ktab (List.replicate 64 0) rfl rfl (zero64 w3) rfl info64 ?_
  intro w4 hK4 hg4
  have hb4 : Below w3.heap.size w3 w4 := ((Below.refl _ _).alloc (Nat.le_refl _) _).grown hg4 (by simp) (fun r e => by cases e; exact Nat.le_refl _)
  have hs4 : w3.heap.size < w4.heap.size := block_lt_of_cell (hK4.1 0 (by decide))
  have HH4 := Lib.hid (HH3.out.below hb4 (by simp [St.list]))
  have HZ4 := Lib.hid (HZ3.out.below hb4 (by simp))
  have HW4 := Lib.hid (HW3.out.below hb4 (by rw [words1_length]; omega))
  have HB4 := Lib.hid (HB3.out.trans (hb4.mono (by omega)))
  have HK4 := Lib.hid hK4
  clear HH3 HZ3 HW3 HB3 hb4 hK4 hg4
  go_wp2_with (first | (with_reducible refine wpList_haltLoad 113 _ rfl ?_))
  refine Halt.mk ?_
  refine wpList_load32 rfl _ _ rfl w.heap.size rfl st.list HH4.out _ Tryd.underlying113 rfl info8 ?_
  go_wp2_with (first | (with_reducible refine wpList_haltStore 113 _ _ rfl ?_))
  refine Halt.mk ?_
  refine wpList_store32 rfl _ _ _ rfl w4.heap.size st.list (List.replicate 8 0) rfl rfl (zero8 w4) rfl info8 ?_
  intro w5 hV5 hg5
  have hb5 : Below w4.heap.size w4 w5 := ((Below.refl _ _).alloc (Nat.le_refl _) _).grown hg5 (by simp) (fun r e => by cases e; exact Nat.le_refl _)
  have HH5 := Lib.hid (HH4.out.below hb5 (by simp [St.list]))
  have HZ5 := Lib.hid (HZ4.out.below hb5 (by simp))
  have HW5 := Lib.hid (HW4.out.below hb5 (by rw [words1_length]; omega))
  have HB5 := Lib.hid (HB4.out.trans (hb5.mono (by omega)))
  have HK5 := Lib.hid (HK4.out.below hb5 (by decide))
  have HV5 := Lib.hid hV5
  obtain ⟨bW, hbW⟩ : ∃ b, w1.heap.size = b := ⟨_, rfl⟩
  obtain ⟨bK, hbK⟩ : ∃ b, w3.heap.size = b := ⟨_, rfl⟩
  obtain ⟨bV, hbV⟩ : ∃ b, w4.heap.size = b := ⟨_, rfl⟩
  rw [hbW] at HW5 hs1 hs2 ⊢
  rw [hbK] at HK5 hs3 hs4 ⊢
  rw [hbV] at HV5 hs4 ⊢
  have n1 : w.heap.size + 1 < bV := by omega
  have n2 : bW < bV := by omega
  have n3 : bK < bV := by omega
  clear HH4 HZ4 HW4 HB4 HK4 hb5 hg5 hV5 hbW hbK hbV hs1 hs2 hs3 hs4
  go_wp2_with fail
  go_loopw [8] (fun i wr => ∃ n : Nat, n ≤ 64 ∧ i = .int .i64 n ∧ Aside (Row32 wr bV (rounds s st n).list) ∧ Aside (Row32 wr w.heap.size st.list) ∧ Aside (Row32 wr (w.heap.size + 1) (List.replicate 8 0)) ∧ Aside (Row32 wr bW (words1 s 64)) ∧ Aside (Row32 wr bK ktab) ∧ Aside (Below w.heap.size w wr)) (fun i _ => 64 - (intOf i).toNat)
  case atStart => exact ⟨0, by omega, rfl, HV5.out, HH5.out, HZ5.out, HW5.out, HK5.out, HB5.out⟩
  case round =>
    clear HV5 HH5 HZ5 HW5 HK5 HB5
    obtain ⟨n, hn, rfl, HV, HH, HZ, HW, HK, HB⟩ := hrel
    by_cases hlt : n < 64
    · have g1 : (0 : Int) ≤ n := by omega
      have g2 : (n : Int) < 64 := by omega
      obtain ⟨r, hr⟩ : ∃ r, rounds s st n = r := ⟨_, rfl⟩
      have hr2 : rounds s st (n + 1) = r.stepR (kAt n) (wAt s n) := by rw [stepR_eq, rounds, hr]
      have hv := HV.out
      rw [hr] at hv
      have HR2 := Lib.hid hr2
      have HV1 := Lib.hid hv
      have hk0 := HK.out.1 n (by rw [show ktab.length = 64 from rfl]; exact hlt)
      have hk1 : wr.cell? ⟨bK, n, none⟩ = some (.int .u32 (wv (kAt n))) := by
        rw [hk0]; unfold kAt; rw [List.getD_eq_getElem?_getD, List.getElem?_eq_getElem (by rw [show ktab.length = 64 from rfl]; exact hlt)]; rfl
      have hw1 := HW.out.word n hlt hlt
      have c0 := hv.1 0 (by simp [St.list])
      have c1 := hv.1 1 (by simp [St.list])
      have c2 := hv.1 2 (by simp [St.list])
      have c3 := hv.1 3 (by simp [St.list])
      have c4 := hv.1 4 (by simp [St.list])
      have c5 := hv.1 5 (by simp [St.list])
      have c6 := hv.1 6 (by simp [St.list])
      have c7 := hv.1 7 (by simp [St.list])
      simp only [St.list, List.getElem_cons_zero, List.getElem_cons_succ] at c0 c1 c2 c3 c4 c5 c6 c7
      have HC1 := Lib.hid hk1
      have HC2 := Lib.hid hw1
      clear hv hr2 hr hk0
      go_wp2_with fail
      go_quiet ((go_at_call 110; exact Calls.quiet_of (rturn _ _ _ (by decide))))
      go_wp2_with fail
      have hD : Drawn wr (wr.drewN nq) := ⟨nq, rfl⟩
      obtain ⟨wq, hq⟩ : ∃ wq, wr.drewN nq = wq := ⟨_, rfl⟩
      rw [hq] at hD ⊢
      have HV2 := Lib.hid (hD.row HV1.out)
      have hv := HV2.out
      clear hq c0 c1 c2 c3 c4 c5 c6 c7 hk1 hw1
      have c0 := hv.1 0 (by simp [St.list])
      have c1 := hv.1 1 (by simp [St.list])
      have c2 := hv.1 2 (by simp [St.list])
      have c3 := hv.1 3 (by simp [St.list])
      have c4 := hv.1 4 (by simp [St.list])
      have c5 := hv.1 5 (by simp [St.list])
      have c6 := hv.1 6 (by simp [St.list])
      have c7 := hv.1 7 (by simp [St.list])
      simp only [St.list, List.getElem_cons_zero, List.getElem_cons_succ] at c0 c1 c2 c3 c4 c5 c6 c7
      clear hv
      go_quiet ((go_at_call 110; exact Calls.quiet_of (rturn _ _ _ (by decide))))
      have hE : Drawn wr (wq.drewN nq) := hD.trans ⟨nq, rfl⟩
      obtain ⟨wz, hz⟩ : ∃ wz, wq.drewN nq = wz := ⟨_, rfl⟩
      rw [hz] at hE ⊢
      have HV3 := Lib.hid (hE.row HV1.out)
      have HH3 := Lib.hid (hE.row HH.out)
      have HZ3 := Lib.hid (hE.row HZ.out)
      have HW3 := Lib.hid (hE.row HW.out)
      have HK3 := Lib.hid (hE.row HK.out)
      have HB3 := Lib.hid (hE.below HB.out)
      have hv := HV3.out
      clear hz hD hE c0 c1 c2 c3 c4 c5 c6 c7 HV HH HZ HW HK HB HV1 HV2 HC1 HC2
      have c0 := hv.1 0 (by simp [St.list])
      have c1 := hv.1 1 (by simp [St.list])
      have c2 := hv.1 2 (by simp [St.list])
      have c3 := hv.1 3 (by simp [St.list])
      have c4 := hv.1 4 (by simp [St.list])
      have c5 := hv.1 5 (by simp [St.list])
      have c6 := hv.1 6 (by simp [St.list])
      have c7 := hv.1 7 (by simp [St.list])
      simp only [St.list, List.getElem_cons_zero, List.getElem_cons_succ] at c0 c1 c2 c3 c4 c5 c6 c7
      clear hv
      go_wp2_with (first | (with_reducible refine wpList_haltStore 113 _ _ rfl ?_))
      refine Halt.mk ?_
      refine wpList_store32 rfl _ _ _ rfl bV (r.stepR (kAt n) (wAt s n)).list r.list rfl rfl HV3.out rfl info8 ?_
      intro w6 hV6 hg6
      have HV6 := Lib.hid hV6
      have hlv := block_lt_of_cell c0
      have HH6 := Lib.hid (HH3.out.kept (hg6.block _ (block_lt_of_cell (HH3.out.1 0 (by simp [St.list]))) (fun e => by have := Option.some.inj e; omega)))
      have HZ6 := Lib.hid (HZ3.out.kept (hg6.block _ (block_lt_of_cell (HZ3.out.1 0 (by simp))) (fun e => by have := Option.some.inj e; omega)))
      have HW6 := Lib.hid (HW3.out.kept (hg6.block _ (block_lt_of_cell (HW3.out.1 0 (by rw [words1_length]; omega))) (fun e => by have := Option.some.inj e; omega)))
      have HK6 := Lib.hid (HK3.out.kept (hg6.block _ (block_lt_of_cell (HK3.out.1 0 (by decide))) (fun e => by have := Option.some.inj e; omega)))
      have HB6 := Lib.hid (HB3.out.grown hg6 HB3.out.size (fun r e => by cases e; omega))
      clear hV6 hg6 HV3 HH3 HZ3 HW3 HK3 HB3 c0 c1 c2 c3 c4 c5 c6 c7
      go_wp2
      go_roundw
      case rel => exact ⟨n + 1, by omega, by go_num, (by rw [HR2.out]; exact HV6.out), HH6.out, HZ6.out, HW6.out, HK6.out, HB6.out⟩
      case measure => simp [intOf]; omega
    · obtain rfl : n = 64 := by omega
      rw [show ((64 : Nat) : Int) = (64 : Int) from rfl]
      have hdone := mix_done st s
      have hm0 : Row32 wr w.heap.size (mix st.list (rounds s st 64).list 0) := HH.out
      obtain ⟨r, hr⟩ : ∃ r, rounds s st 64 = r := ⟨_, rfl⟩
      have hv := HV.out
      rw [hr] at hdone hm0 hv
      have HD := Lib.hid hdone
      have HM := Lib.hid hm0
      have HV1 := Lib.hid hv
      clear hdone hm0 hr hv HV HH HW HK
      go_wp2_with fail
      go_loopw [13] (fun i wr => ∃ n : Nat, n ≤ 8 ∧ i = .int .i64 n ∧ Aside (Row32 wr w.heap.size (mix st.list r.list n)) ∧ Aside (Row32 wr bV r.list) ∧ Aside (Row32 wr (w.heap.size + 1) (List.replicate 8 0)) ∧ Aside (Below w.heap.size w wr)) (fun i _ => 8 - (intOf i).toNat)
      case atStart => exact ⟨0, by omega, rfl, HM.out, HV1.out, HZ.out, HB.out⟩
      case round =>
        clear HM HV1 HZ HB
        obtain ⟨n, hn, rfl, HM, HV, HZ, HB⟩ := hrel
        by_cases hlt : n < 8
        · have g1 : (0 : Int) ≤ n := by omega
          have g2 : (n : Int) < 8 := by omega
          have hc := HM.out.1 n (by rw [mix_length]; exact hlt)
          rw [mix_at] at hc
          have hf := HM.out.2 n
          have hv := HV.out.1 n (by rw [St.list_length]; exact hlt)
          rw [show r.list[n] = r.list.getD n 0 from by rw [List.getD_eq_getElem?_getD, List.getElem?_eq_getElem (by rw [St.list_length]; exact hlt)]; rfl] at hv
          have hR2 := (Row32.kept (W' := wr.drew) HM.out rfl).setg (by rw [mix_length]; exact hlt) (mix_step st.list r.list n)
          have HR2 := Lib.hid hR2
          have HV2 := Lib.hid (Row32.other (i := n) (v := .int .u32 (wv (st.list.getD n 0 + r.list.getD n 0))) (Row32.kept (W' := wr.drew) HV.out rfl) (show bV ≠ w.heap.size by omega))
          have HZ2 := Lib.hid (Row32.other (i := n) (v := .int .u32 (wv (st.list.getD n 0 + r.list.getD n 0))) (Row32.kept (W' := wr.drew) HZ.out rfl) (show w.heap.size + 1 ≠ w.heap.size by omega))
          have HB2 := Lib.hid (HB.out.drew.setCell (p := ⟨w.heap.size, n, none⟩) (Nat.le_refl _) (.int .u32 (wv (st.list.getD n 0 + r.list.getD n 0))))
          clear hR2 HM HV HZ HB
          obtain ⟨x, hx⟩ : ∃ x, st.list.getD n 0 = x := ⟨_, rfl⟩
          obtain ⟨y, hy⟩ : ∃ y, r.list.getD n 0 = y := ⟨_, rfl⟩
          rw [hx] at hc HR2 HV2 HZ2 HB2
          rw [hy] at hv HR2 HV2 HZ2 HB2
          clear hx hy
          go_wp2_with fail
          go_still_tail 9, (by kernel_rfl)
          change wpList _ _ _ _ _ wr.drew
          have hc2 : wr.drew.cell? ⟨w.heap.size, n, none⟩ = some (.int .u32 (wv x)) := hc
          have hf2 : wr.drew.frozen? ⟨w.heap.size, n, none⟩ = false := hf
          clear hc hf hv
          obtain ⟨w5, hw5⟩ : ∃ w5, wr.drew = w5 := ⟨_, rfl⟩
          rw [hw5] at HR2 HV2 HZ2 HB2 hc2 hf2 ⊢
          clear hw5
          go_wp2
          go_roundw
          case rel => exact ⟨n + 1, by omega, by go_num, HR2.out, HV2.out, HZ2.out, HB2.out⟩
          case measure => simp [intOf]; omega
        · obtain rfl : n = 8 := by omega
          rw [show ((8 : Nat) : Int) = (8 : Int) from rfl]
          have hm := HM.out
          rw [HD.out, HQ.out] at hm
          have HM2 := Lib.hid hm
          clear hm HM HV
          go_wp2_with (first | (with_reducible refine wpList_haltLoad 113 _ rfl ?_))
          refine Halt.mk ?_
          refine wpList_load32 rfl _ _ rfl w.heap.size rfl q.list HM2.out _ Tryd.underlying113 rfl (by rw [St.list_length]; exact info8) ?_
          go_wp2_with (first | (with_reducible refine wpList_haltStore 113 _ _ rfl ?_))
          refine Halt.mk ?_
          refine wpList_store32 rfl _ _ _ rfl (w.heap.size + 1) q.list (List.replicate 8 0) rfl rfl HZ.out (by rw [St.list_length]; rfl) (by rw [St.list_length]; exact info8) ?_
          intro w9 hR hg
          go_wp2_with fail
          refine bodyPost_ret (v := .agg (vals32 q.list).toArray) (results_cell32 rfl _ _ (w.heap.size + 1) q.list _ (by rfl) hR Tryd.underlying113 rfl (by rw [St.list_length]; exact info8)) rfl ⟨rfl, ?_⟩
          exact HB.out.grown hg HB.out.size (fun r e => by cases e; omega)
end Go.Proofs.YtfbopnebfdkhdaaDoor
