/- Contract of pharosref13.CommitteeRoot. -/
import Derived.Test.YtfbopnebfdkhdaaDoorComA
namespace Go.Proofs.YtfbopnebfdkhdaaDoor
open Go.RowKit Go.Shelf Go.Lib
attribute [local go_sem] Oper.semAt_some

set_option maxRecDepth 100000 in
set_option maxHeartbeats 6400000 in
theorem rcommRoot_any (v : Value) (keys : List ByteArray) (sum : ByteArray) (w : World) (hv : Strs w v keys) (hN : keys.length ≤ 1048576) :
    Calls Tryd.prog 21 #[.agg #[v, .string sum]] w fun e w' => e = .returned (commV keys sum) ∧ Below w.heap.size w w' := by
  obtain ⟨p, c, rfl, hc, hcell⟩ := hv
  have HC := Lib.hid hcell
  have HL1 := Lib.hid (fun (h : keys.length ≠ 16) => commV_len (sum := sum) h)
  have HL2 := Lib.hid (fun (h : sum.size ≠ 5) => commV_sum (keys := keys) h)
  have HL3 := Lib.hid (fun (x : ByteArray) (hx : x ∈ keys) (h : x.size ≠ 5) => commV_key (sum := sum) hx h)
  have HL4 := Lib.hid (fun h1 h2 h3 => commV_good (keys := keys) (sum := sum) h1 h2 h3)
  have HL5 := Lib.hid (fun h1 h3 => packs_right (keys := keys) h1 h3)
  obtain ⟨R, hR⟩ : ∃ R, commV keys sum = R := ⟨_, rfl⟩
  rw [hR] at HL1 HL2 HL3 HL4 ⊢
  obtain ⟨n, hn⟩ : ∃ n, keys.length = n := ⟨_, rfl⟩
  rw [hn] at hN hc HL1 HL4 HL5 ⊢
  have HN := Lib.hid hn
  clear hR hn hcell
  have hb0 : Below w.heap.size w (w.alloc (.cells #[.slice p n c, .string sum] 44)) := (Below.refl w.heap.size w).alloc (Nat.le_refl _) _
  have HB0 := Lib.hid hb0
  clear hb0
  by_cases h16 : n = 16
  · subst h16
    by_cases hs5 : sum.size = 5
    · have g1 : ((sum.size : Int) != 5) = false := by rw [bne_eq_false_iff_eq]; omega
      go_enter Tryd.func21, Tryd.ntmps21
      go_wp2_with fail
      obtain ⟨w0, hw0⟩ : ∃ w0, w.alloc (.cells #[.slice p 16 c, .string sum] 44) = w0 := ⟨_, rfl⟩
      have hz0 : w0.heap.size = w.heap.size + 1 := by rw [← hw0]; simp
      have q0 : w0.cell? ⟨w.heap.size, 0, none⟩ = some (.slice p 16 c) := by rw [← hw0]; simp
      have q1 : w0.cell? ⟨w.heap.size, 1, none⟩ = some (.string sum) := by rw [← hw0]; simp
      rw [hw0] at HB0 ⊢
      have HQ := Lib.hid (fun W (hb : Below (w.heap.size + 1) w0 W) => And.intro ((hb.cell (p := ⟨w.heap.size, 0, none⟩) (Nat.lt_succ_self _)).trans q0) ((hb.cell (p := ⟨w.heap.size, 1, none⟩) (Nat.lt_succ_self _)).trans q1))
      clear hw0 q0 q1 g1
      go_loopw [4, 5] (fun v i wr => ∃ j : Nat, j ≤ 16 ∧ i = .int .i64 j ∧ Aside (∀ k x, k < j → keys[k]? = some x → x.size = 5) ∧ Aside (OwnS (w.heap.size + 1) wr v ((keys.take j).map pack5)) ∧ Aside (Below (w.heap.size + 1) w0 wr)) (fun _ i _ => 16 - (RowKit.intOf i).toNat)
      case atStart => exact ⟨0, Nat.zero_le _, rfl, (fun _ _ h => absurd h (Nat.not_lt_zero _)), OwnS.nil _ _, Below.refl _ _⟩
      case round =>
        obtain ⟨j, hj, rfl, HF, HO, HB⟩ := hrel
        have hzr : w.heap.size + 1 ≤ wr.heap.size := by have := HB.out.size; omega
        obtain ⟨q0, q1⟩ := HQ.out wr HB.out
        by_cases hlj : j < 16
        · obtain ⟨x, hx⟩ : ∃ x, keys[j]? = some x := ⟨_, List.getElem?_eq_getElem (by rw [HN.out]; exact hlj)⟩
          obtain ⟨bk, o, rfl, hbk, hcl⟩ : ∃ bk o, p = some ⟨bk, o, none⟩ ∧ bk < w.heap.size ∧ ∀ (j : Nat) x, keys[j]? = some x → w.cell? ⟨bk, o + j, none⟩ = some (.string x) := by
            rcases HC.out with h | ⟨bk, o, h1, h2, h3⟩
            · rw [h] at hx; cases hx
            · exact ⟨bk, o, h1, h2, h3⟩
          have hbw : Below w.heap.size w wr := HB0.out.trans (HB.out.mono (by omega))
          have c0 : wr.cell? ⟨bk, o + j, none⟩ = some (.string x) := (hbw.cell (p := ⟨bk, o + j, none⟩) hbk).trans (hcl j x hx)
          have g1 : (0 : Int) ≤ j := by omega
          have g2 : (j : Int) < 16 := by omega
          have HX := Lib.hid hx
          clear hbw hcl
          by_cases h5 : x.size = 5
          · have g5 : ((x.size : Int) != 5) = false := by rw [bne_eq_false_iff_eq]; omega
            have hp := fun W => rpack5_any x W h5
            have hts : (keys.take (j + 1)).map pack5 = (keys.take j).map pack5 ++ [pack5 x] := by rw [List.take_add_one, hx]; simp
            have hll : ((keys.take j).map pack5).length = j := by rw [List.length_map, List.length_take, HN.out]; omega
            obtain ⟨L, hL⟩ : ∃ L, (keys.take j).map pack5 = L := ⟨_, rfl⟩
            have ho := HO.out
            rw [hL] at hts hll ho
            obtain ⟨pv, cv, hv⟩ := ho.form
            rw [hll] at hv
            subst hv
            have H1 := Lib.hid hp
            have HTS := Lib.hid hts
            have HLL := Lib.hid hll
            have HO1 := Lib.hid ho
            have H5 := Lib.hid h5
            clear hp hts hll ho hL hx HO h5 hs5
            go_wp2_with fail
            refine (H1.out _).mono ?_
            rintro e w3 ⟨v3, rfl, ho3, hb3⟩
            obtain ⟨g3, c3, hv3, -, hg3, hc3, -⟩ := ho3.opened (by simp)
            simp only [List.length_singleton] at hv3
            subst hv3
            have HO2 := Lib.hid (HO1.out.after hb3)
            have HB3 := Lib.hid (HB.out.trans (hb3.mono hzr))
            have HC3 := Lib.hid hc3
            have hz3 : w.heap.size + 1 ≤ w3.heap.size := Nat.le_trans hzr hb3.size
            clear ho3 hb3 hc3 HO1 HB c0 q0 q1
            go_wp2_with (at_builtin; refine wpList_appendTs rfl _ _ 30 rfl (w.heap.size + 1) Tryd.underlying30 infoStr _ L rfl HO2.out ⟨g3, 0, none⟩ 1 c3 [pack5 x] rfl ?d0 ?d1 ?d2 ?d3 ?_)
            case d0 => rfl
            case d1 => exact fun k y hy => by rw [addr_add]; exact HC3.out k y hy
            case d2 => rw [HLL.out]; omega
            case d3 => exact hz3
            intro v4 w4 ho4 hg4 _
            have hb4 : Below (w.heap.size + 1) w0 w4 := HB3.out.grown hg4 hz3 (fun r e => (HO2.out.lt r e).1)
            rw [← HTS.out] at ho4
            have HO4 := Lib.hid ho4
            have HB4 := Lib.hid hb4
            clear ho4 hg4 hb4 HO2 HB3 HC3
            go_wp2
            go_roundw
            case rel => exact ⟨j + 1, by omega, by go_num, (fun k y hk hy => by
              rcases Nat.lt_succ_iff_lt_or_eq.1 hk with h | rfl
              · exact HF.out k y h hy
              · rw [HX.out] at hy; cases hy; exact H5.out), HO4.out, HB4.out⟩
            case measure => simp [RowKit.intOf]; omega
          · have g5 : ((x.size : Int) != 5) = true := by rw [bne_iff_ne]; omega
            have hr := HL3.out x (List.mem_of_getElem? hx) h5
            subst hr
            clear hx HX
            go_wp2
            go_ret2
            exact ⟨rfl, HB0.out.trans (HB.out.mono (by omega))⟩
        · obtain rfl : j = 16 := by omega
          have hk5 : ∀ x ∈ keys, x.size = 5 := fun x hx => by
            obtain ⟨k, hk⟩ := List.mem_iff_getElem?.1 hx
            exact HF.out k x (by have := (List.getElem?_eq_some_iff.1 hk).1; rw [HN.out] at this; exact this) hk
          have hr := HL4.out trivial hs5 hk5
          have hrb := HL5.out trivial hk5
          have ho := HO.out
          rw [List.take_of_length_le (by rw [HN.out]; omega)] at ho
          have hlm : (keys.map pack5).length = 16 := by rw [List.length_map, HN.out]
          have hroot := rroot4_any _ (keys.map pack5) wr ho.strs (fun h => by rw [h] at hlm; simp at hlm) (by omega)
          unfold rrootV4 at hroot
          rw [hrb] at hroot
          simp only [if_true] at hroot
          obtain ⟨pv, cv, hv⟩ := ho.form
          rw [hlm] at hv
          subst hv
          have hps := pack5_size hs5
          have hpk := fun W => rpack5_any sum W hs5
          have hrs : (rootB 4 (keys.map pack5) noughtB).size = 32 := rootB_size 4 _ _ (fun x hx => by
              obtain ⟨y, hy, rfl⟩ := List.mem_map.1 hx
              exact pack5_size (hk5 y hy)) noughtB_size
          obtain ⟨rt, hrt⟩ : ∃ rt, rootB 4 (keys.map pack5) noughtB = rt := ⟨_, rfl⟩
          obtain ⟨ps, hpse⟩ : ∃ ps, pack5 sum = ps := ⟨_, rfl⟩
          rw [hrt] at hroot hr hrs
          rw [hpse] at hr hps hpk
          have hsum := fun W => rsum_shaB (rt ++ ps) W (by rw [ByteArray.size_append]; omega)
          obtain ⟨fin, hfin⟩ : ∃ fin, shaB (rt ++ ps) = fin := ⟨_, rfl⟩
          rw [hfin] at hr hsum
          subst hr
          have g9 : ¬ 9223372036854775807 < rt.size + ps.size := by omega
          have HROOT := Lib.hid hroot
          have HPK := Lib.hid hpk
          have HSUM := Lib.hid hsum
          clear hk5 hs5 hrb ho hlm hroot hps hpk hrs hrt hpse hsum hfin HL1 HL2 HL3 HL4 HL5 HO HF HC
          go_wp2_with fail
          refine HROOT.out.mono ?_
          rintro e w5 ⟨rfl, hb5⟩
          have HB5 := Lib.hid (HB.out.trans (hb5.mono hzr))
          have hz5 : w.heap.size + 1 ≤ w5.heap.size := Nat.le_trans hzr hb5.size
          clear hb5 q0 q1 HB
          obtain ⟨q0, q1⟩ := HQ.out w5 HB5.out
          go_wp2_with fail
          refine (HPK.out _).mono ?_
          rintro e w6 ⟨v6, rfl, ho6, hb6⟩
          obtain ⟨g6, c6, hv6, -, hg6, hc6, -⟩ := ho6.opened (by simp)
          simp only [List.length_singleton] at hv6
          subst hv6
          have c0 := hc6 0 ps rfl
          have HB6 := Lib.hid (HB5.out.trans (hb6.mono hz5))
          have hz6 : w.heap.size + 1 ≤ w6.heap.size := Nat.le_trans hz5 hb6.size
          clear hb6 ho6 hc6 q0 q1
          go_wp2_with fail
          refine (HSUM.out _).mono ?_
          rintro e w7 ⟨rfl, hb7⟩
          have HB7 := Lib.hid (HB0.out.trans ((HB6.out.trans (hb7.mono hz6)).mono (by omega)))
          clear hb7
          go_wp2
          go_ret2
          exact ⟨rfl, HB7.out⟩
    · have g1 : ((sum.size : Int) != 5) = true := by rw [bne_iff_ne]; omega
      have hr := HL2.out hs5
      subst hr
      go_enter Tryd.func21, Tryd.ntmps21
      go_wp2
      go_ret2
      exact ⟨rfl, HB0.out⟩
  · have g1 : ((n : Int) != 16) = true := by rw [bne_iff_ne]; omega
    have hr := HL1.out h16
    subst hr
    go_enter Tryd.func21, Tryd.ntmps21
    go_wp2
    go_ret2
    exact ⟨rfl, HB0.out⟩
end Go.Proofs.YtfbopnebfdkhdaaDoor
