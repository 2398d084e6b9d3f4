/- Contract of pharosref13.BootFrom. -/
import Derived.Test.YtfbopnebfdkhdaaDoorQfC
import Derived.Test.YtfbopnebfdkhdaaDoorRdJ
namespace Go.Proofs.YtfbopnebfdkhdaaDoor
open Go.RowKit Go.Shelf Go.Lib
attribute [local go_sem] Oper.semAt_some

theorem step_store_mid {P : Program} {ops : Array Oper} {o : Oper} {a : Act} {w : World} {K : Act → World → Prop} {Q : Exit → Act → World → Prop} {E : Prop} (hw : Region.wanted o (yielded ops a.tmps) = true) (ty : TypeId) (x y : Operand) (ho : o.op = .store ty x y)
    (b off : Nat) (cells : Array Value) (hx : a.eval x = .pointer (some ⟨b, off, none⟩)) (hy : a.eval y = .agg cells) (ht : w.there b off cells.size) (hi : (P.info? ty).map (·.size) = some cells.size) (h1 : cells.all (·.oneCell') = true)
    (hK : K (a.put o.dst undef) (w.setCells b off cells.toList)) : if Region.wanted o (yielded ops a.tmps) = true then Oper.wp P o a w K Q else E := by
  rw [if_pos hw]
  exact wp_store_mid ty x y ho b off cells hx hy ht hi h1 hK
theorem committeeOf_gen (x : Item) (p : Option Addr) (c : Nat) (w : World) (hr : Reads w w.heap.size (.slice p x.list.length c) x.list) (hz : x.size ≤ 1099511627775) : Calls Tryd.prog 53 #[.agg #[.bool x.isList, .string (txtB x), .slice p x.list.length c]] w fun e w' =>
    ∃ cl a, e = .returned (.tuple #[.agg cl.toArray, .bool a]) ∧ cl.length = 2 ∧ cl.toArray.all (·.oneCell') = true ∧ a = (!commB x) ∧
      (commB x = false → ∃ p c, cl = commC x (.slice p (tsL (ci x 0)).length c) ∧ Strs w' (.slice p (tsL (ci x 0)).length c) (tsL (ci x 0)) ∧ ∀ j, (Value.slice p (tsL (ci x 0)).length c).ownBlock = some j → w.heap.size ≤ j) ∧ Below w.heap.size w w' := by
  refine (committeeOf_any x p c w hr hz).mono ?_
  rintro e w' ⟨⟨hb, p, n, c, t, rfl⟩ | ⟨hb, p, c, rfl, hs⟩, hw⟩
  · exact ⟨_, false, rfl, rfl, two_one _ _ _ _, by rw [hb]; rfl, fun h => (by rw [hb] at h; cases h), hw⟩
  · exact ⟨_, true, rfl, rfl, commC_one _ _ _ _, by rw [hb]; rfl, fun _ => ⟨p, c, rfl, hs⟩, hw⟩
theorem textsOf_gen (x : Item) (p : Option Addr) (c : Nat) (w : World) (hr : Reads w w.heap.size (.slice p x.list.length c) x.list) (hz : x.size ≤ 1099511627775) : Calls Tryd.prog 54 #[.agg #[.bool x.isList, .string (txtB x), .slice p x.list.length c]] w fun e w' =>
    ∃ pv n cv a, e = .returned (.tuple #[.slice pv n cv, .bool a]) ∧ a = (!tsB x) ∧
      (tsB x = false → n = (tsL x).length ∧ Strs w' (.slice pv n cv) (tsL x) ∧ ∀ j, (Value.slice pv n cv).ownBlock = some j → w.heap.size ≤ j) ∧ Below w.heap.size w w' := by
  obtain ⟨ht, htl⟩ := tsB_flat x
  refine (textsOf_any x p c w hr (by have := x.len_size; omega)).mono ?_
  rintro e w' ⟨⟨hb, rfl⟩ | ⟨hb, p, c, rfl, hs⟩, hw⟩
  · exact ⟨_, _, _, false, rfl, by rw [ht, hb]; simp, fun h => (by rw [ht, hb] at h; simp at h), hw⟩
  · refine ⟨_, _, _, _, rfl, by rw [ht, hb]; simp, fun h => ?_, hw⟩
    have hil : x.isList = true := by rw [ht, hb] at h; simpa using h
    rw [htl hil]
    exact ⟨rfl, hs⟩
theorem spl_full_aux (us : List Value) : ∀ (pre zs : List Value), zs.length = us.length → spl (pre ++ zs) pre.length us = pre ++ us := by
  induction us with
  | nil => intro pre zs h; rw [List.length_eq_zero_iff.1 h]; rfl
  | cons v r ih =>
    intro pre zs h
    match zs, h with
    | z :: zs, h =>
      rw [spl]
      have e : (pre ++ z :: zs).set pre.length v = (pre ++ [v]) ++ zs := by simp
      rw [e, show pre.length + 1 = (pre ++ [v]).length by simp, ih (pre ++ [v]) zs (by simpa using h)]
      simp
theorem spl_full {zs us : List Value} (h : zs.length = us.length) : spl zs 0 us = us := spl_full_aux us [] zs h
theorem bootZ_one : bootZ.toArray.all (·.oneCell') = true := all_oneCell_toArray (fun v hv => by
  unfold bootZ at hv
  simp only [List.mem_cons, List.not_mem_nil, or_false] at hv
  rcases hv with rfl | rfl | rfl | rfl | rfl | rfl | rfl | rfl | rfl | rfl | rfl | rfl <;> rfl)
set_option maxRecDepth 100000 in
set_option maxHeartbeats 25600000 in
theorem rbootFrom_any (s : List UInt8) (w : World) (hs : s.length ≤ 1099511627776) : Calls Tryd.prog 24 #[.string ⟨s.toArray⟩] w fun e w' => ((bootBad (decode s).1 (decode s).2 = true ∧ e = .returned (.tuple #[.agg bootZ.toArray, .int .i64 130])) ∨ (bootBad (decode s).1 (decode s).2 = false ∧ ∃ (p0 p1 p2 : Option Addr) (c0 c1 c2 : Nat), e = .returned (.tuple #[.agg (bootC (decode s).1 (.slice p0 (tsL (li (bootI (decode s).1 0) 2)).length c0) (.slice p1 (tsL (ci (bootI (decode s).1 1) 0)).length c1) (.slice p2 (tsL (bootI (decode s).1 2)).length c2)).toArray, .int .i64 0]) ∧ Strs w' (.slice p0 (tsL (li (bootI (decode s).1 0) 2)).length c0) (tsL (li (bootI (decode s).1 0) 2)) ∧ Strs w' (.slice p1 (tsL (ci (bootI (decode s).1 1) 0)).length c1) (tsL (ci (bootI (decode s).1 1) 0)) ∧ Strs w' (.slice p2 (tsL (bootI (decode s).1 2)).length c2) (tsL (bootI (decode s).1 2)))) ∧ Below w.heap.size w w' := by
  have hz := decode_size s
  obtain ⟨w0, hw0⟩ : ∃ W, w.alloc (.cells bootZ.toArray 48) = W := ⟨_, rfl⟩
  have HD := Lib.hid (decodeRef_any s w0 hs)
  obtain ⟨X, hX⟩ : ∃ X, (decode s).1 = X := ⟨_, rfl⟩
  obtain ⟨ce, hC⟩ : ∃ C, (decode s).2 = C := ⟨_, rfl⟩
  rw [hX] at hz
  rw [hX, hC]
  have hp0 : HasCells w0 w.heap.size bootZ 48 := by rw [← hw0]; exact HasCells.new w _ _
  have hb0 : Below w.heap.size w w0 := by rw [← hw0]; exact (Below.refl _ _).alloc (Nat.le_refl _) _
  have HX := Lib.hid hX
  have HC := Lib.hid hC
  have HZ := Lib.hid hz
  have HP0 := Lib.hid hp0
  have HB0 := Lib.hid hb0
  have HW0 := Lib.hid hw0
  clear hs hX hC hz hp0 hb0 hw0
  go_enter Tryd.func24, Tryd.ntmps24
  go_wp2_with fail
  rw [show w.alloc (.cells #[.int .u64 0, .int .u64 0, .string ⟨#[]⟩, .string ⟨#[]⟩, .string ⟨#[]⟩, .string ⟨#[]⟩, .string ⟨#[]⟩, .int .u64 0, .slice none 0 0, .slice none 0 0, .string ⟨#[]⟩, .slice none 0 0] 48) = w0 from HW0.out]
  refine HD.out.mono ?_
  rintro e w1 ⟨hb1, x, ce', p, c, rfl, hdec, hrd⟩
  obtain rfl : X = x := by rw [← HX.out, hdec.out]
  obtain rfl : ce = ce' := by rw [← HC.out, hdec.out]
  have HB1 := Lib.hid (HB0.out.trans (hb1.mono HB0.out.size))
  have HR := Lib.hid hrd.out
  have HP := Lib.hid (show ∀ W, Below w1.heap.size w1 W → HasCells W w.heap.size bootZ 48 from fun W hb => by
    have h1 : HasCells w1 w.heap.size bootZ 48 := (hb1.block _ HP0.out.lt).trans HP0.out
    exact (hb.block _ h1.lt).trans h1)
  have hlp : w.heap.size + 1 ≤ w1.heap.size := by have := (HP.out w1 (Below.refl _ _)).lt; omega
  have HLP := Lib.hid hlp
  clear hdec hrd hb1 HD hlp
  have hcb : (ce != 0) = decide (ce ≠ 0) := by by_cases hc : ce = 0 <;> simp [hc]
  obtain ⟨E, hE⟩ : ∃ E, decide (ce ≠ 0) = E := ⟨_, rfl⟩
  rw [hE] at hcb
  have HE := Lib.hid hE
  clear hE
  have b1 : Below w1.heap.size w1 w1 := Below.refl _ _
  obtain ⟨ib, hib⟩ : ∃ v, X.isList = v := ⟨_, rfl⟩
  have HIB := Lib.hid hib
  obtain ⟨m0, hm0⟩ : ∃ v, (X.isList && ((X.list.length : Int) == 3)) = v := ⟨_, rfl⟩
  have HO0 := Lib.hid (show opnB X 3 = !m0 by rw [← hm0]; exact opnB_many X 3)
  have HM0 := Lib.hid hm0
  have G0 := fun W => many_any X.isList (txtB X) p X.list.length c 3 W
  rw [hm0] at G0
  have H0 := Lib.hid G0
  obtain ⟨w2, hw2⟩ : ∃ W, w1.alloc (.cells #[.bool X.isList, .string (txtB X), .slice p X.list.length c] 80) = W := ⟨_, rfl⟩
  have HW2 := Lib.hid hw2
  have b2 : Below w1.heap.size w1 w2 := by rw [← hw2]; exact (Below.refl _ _).alloc (Nat.le_refl _) _
  have HXX := Lib.hid (show ∀ W, Below w2.heap.size w2 W → W.cell? ⟨w1.heap.size, 0, none⟩ = some (.bool X.isList) ∧ W.cell? ⟨w1.heap.size, 1, none⟩ = some (.string (txtB X)) ∧ W.cell? ⟨w1.heap.size, 2, none⟩ = some (.slice p X.list.length c) from fun W hb => by
    refine cells_three (t := 80) ?_
    rw [← hw2] at hb
    exact hb)
  clear hib hm0 G0 hw2 b1
  cases E with
  | true =>
    have hbad : bootBad X ce = true := by unfold bootBad; rw [HE.out]; simp
    have HBad := Lib.hid hbad
    clear hbad
    rw [show (Value.string ⟨X.text.toArray⟩) = .string (txtB X) from rfl]
    obtain ⟨q, hq⟩ : ∃ q, X.list.length = q := ⟨_, rfl⟩
    obtain ⟨ib2, hib2⟩ : ∃ v, X.isList = v := ⟨_, rfl⟩
    obtain ⟨tx, htx⟩ : ∃ v, txtB X = v := ⟨_, rfl⟩
    rw [hq, hib2, htx] at HW2 ⊢
    clear hq hib2 htx
    have hP := (HP.out w2 b2)
    rw [← HW2.out] at hP
    have HPX := Lib.hid hP
    clear hP
    go_wp2_with ((with_reducible refine store_gate 48 ?_); refine wpList_store_mid rfl 48 _ _ rfl w.heap.size 0 bootZ.toArray rfl rfl (HPX.out.there 0 12 (by decide)) infoBootR bootZ_one ?_)
    rw [show w1.alloc (.cells #[.bool ib2, .string tx, .slice p q c] 80) = w2 from HW2.out]
    refine bodyPost_ret (results_cells2 rfl _ _ w.heap.size bootZ _ rfl (((HP.out w2 b2).sets bootZ 0).range) Tryd.underlying48 rfl infoBootR) rfl ?_
    exact ⟨.inl ⟨HBad.out, rfl⟩, HB1.out.trans ((b2.mono HB1.out.size).trans (sets_below (Nat.le_refl _) _ _ _))⟩
  | false =>
    go_wp2_with fail
    rw [show w1.alloc (.cells #[.bool X.isList, .string ⟨X.text.toArray⟩, .slice p X.list.length c] 80) = w2 from HW2.out]
    refine (H0.out w2).mono ?_
    rintro e w3 ⟨rfl, hb3⟩
    have b3 := b2.trans (hb3.mono b2.size)
    have d3 : Below w2.heap.size w2 w3 := hb3
    clear hb3
    cases m0 with
    | false =>
      have hbad : bootBad X ce = true := by unfold bootBad; rw [HO0.out]; simp
      have HBad := Lib.hid hbad
      clear hbad
      go_wp2_with ((with_reducible refine store_gate 48 ?_); refine wpList_store_mid rfl 48 _ _ rfl w.heap.size 0 bootZ.toArray rfl rfl ((HP.out w3 b3).there 0 12 (by decide)) infoBootR bootZ_one ?_)
      refine bodyPost_ret (results_cells2 rfl _ _ w.heap.size bootZ _ rfl (((HP.out w3 b3).sets bootZ 0).range) Tryd.underlying48 rfl infoBootR) rfl ?_
      exact ⟨.inl ⟨HBad.out, rfl⟩, HB1.out.trans ((b3.mono HB1.out.size).trans (sets_below (Nat.le_refl _) _ _ _))⟩
    | true =>
      obtain ⟨hil, hlM⟩ := many_list (m := 3) HM0.out
      obtain ⟨i0, i1, i2, hxs⟩ : ∃ i0 i1 i2, X.list = [i0, i1, i2] := by
        match hh : X.list, hlM with
        | [i0, i1, i2], _ => exact ⟨i0, i1, i2, rfl⟩
      obtain ⟨gx, ox, rfl, hrow⟩ := Reads.row (HR.out) (by rw [hxs]; exact Nat.succ_pos _)
      obtain ⟨pi0, ci0, hf, hri0⟩ := hrow 0 i0 (by rw [hxs]; rfl)
      have Fi0 := Lib.hid (show ItAt w1 gx (ox) i0 (.slice pi0 i0.list.length ci0) from fun W hb => by have := hf W hb; simpa [Nat.add_assoc] using this)
      have Ri0 := Lib.hid hri0
      clear hf hri0
      obtain ⟨pi1, ci1, hf, hri1⟩ := hrow 1 i1 (by rw [hxs]; rfl)
      have Fi1 := Lib.hid (show ItAt w1 gx (ox + 3) i1 (.slice pi1 i1.list.length ci1) from fun W hb => by have := hf W hb; simpa [Nat.add_assoc] using this)
      have Ri1 := Lib.hid hri1
      clear hf hri1
      obtain ⟨pi2, ci2, hf, hri2⟩ := hrow 2 i2 (by rw [hxs]; rfl)
      have Fi2 := Lib.hid (show ItAt w1 gx (ox + 6) i2 (.slice pi2 i2.list.length ci2) from fun W hb => by have := hf W hb; simpa [Nat.add_assoc] using this)
      have Ri2 := Lib.hid hri2
      clear hf hri2
      clear hrow
      have hop : opnL X 3 = [i0, i1, i2] := by rw [opnL_good (by rw [HO0.out]; rfl), hxs]
      have l0 : bootI X 0 = i0 := by unfold bootI; rw [hop]; rfl
      have l1 : bootI X 1 = i1 := by unfold bootI; rw [hop]; rfl
      have l2 : bootI X 2 = i2 := by unfold bootI; rw [hop]; rfl
      have hbd : bootBad X ce = (lightB i0 || commB i1 || tsB i2) := by
        unfold bootBad
        rw [HO0.out, HE.out, l0, l1, l2]
        simp
      have HBD := Lib.hid hbd
      have hzs : i0.size ≤ 1099511627775 ∧ i1.size ≤ 1099511627775 ∧ i2.size ≤ 1099511627775 := by
        have h1 := HZ.out
        rw [Item.size_eq, hxs] at h1
        simp only [sizeAll] at h1
        omega
      have HZS := Lib.hid hzs
      have HCs := Lib.hid (show ∀ V0 V1 V2, bootC X V0 V1 V2 = [.int .u64 (numV (lh i0 0)), .int .u64 (numV (lh i0 1)), .string (txtB (lh i0 2)), .string (txtB (lh i0 3)), .string (txtB (lh i0 4)), .string (txtB (ly i0 0)), .string (txtB (ly i0 1)), .int .u64 (numV (ly i0 2)), V0, V1, .string (txtB (ci i1 1)), V2] from fun _ _ _ => by
        unfold bootC
        rw [l0, l1]
        simp only [lightC, commC, List.cons_append, List.nil_append])
      have HI0 := Lib.hid l0
      have H0a := Lib.hid (fun W (hb : Below w1.heap.size w1 W) => lightOf_gen i0 pi0 ci0 W (Ri0.out.below hb hb.size) HZS.out.1)
      have HI1 := Lib.hid l1
      have H1a := Lib.hid (fun W (hb : Below w1.heap.size w1 W) => committeeOf_gen i1 pi1 ci1 W (Ri1.out.below hb hb.size) HZS.out.2.1)
      have HI2 := Lib.hid l2
      have H2a := Lib.hid (fun W (hb : Below w1.heap.size w1 W) => textsOf_gen i2 pi2 ci2 W (Ri2.out.below hb hb.size) HZS.out.2.2)
      rw [hlM] at HXX
      clear hop hbd hzs l0 l1 l2 hlM hil
      obtain ⟨x0, x1, x2⟩ := HXX.out w3 d3
      obtain ⟨a00, a01, a02⟩ := Fi0.out w3 b3
      go_wp2_with fail
      refine (H0a.out w3 b3).mono ?_
      rintro e w4 ⟨cl0, A0, rfl, hlen, hone, ha, hgood, hb⟩
      have b4 := b3.trans (hb.mono b3.size)
      have d4 := d3.trans (hb.mono d3.size)
      have HL0 := Lib.hid hlen
      have HN0 := Lib.hid hone
      have HA0 := Lib.hid ha
      have HG0 := Lib.hid hgood
      have hsz0 := b3.size
      have HBN0 := Lib.hid hb
      clear hb hlen hone ha hgood
      clear x0 x1 x2 a00 a01 a02
      have hza : HasCells (w4.alloc (.cells lightZ.toArray 37)) w4.heap.size lightZ 37 := HasCells.new _ _ _
      have hzs : HasCells ((w4.alloc (.cells lightZ.toArray 37)).setCells w4.heap.size 0 cl0) w4.heap.size cl0 37 := by
        have h := hza.sets cl0 0
        rwa [spl_full (by rw [HL0.out]; rfl)] at h
      obtain ⟨w5, hm⟩ : ∃ W, (w4.alloc (.cells lightZ.toArray 37)).setCells w4.heap.size 0 cl0 = W := ⟨_, rfl⟩
      have hbm : Below w4.heap.size w4 w5 := by rw [← hm]; exact ((Below.refl _ _).alloc (Nat.le_refl _) _).trans (sets_below (Nat.le_refl _) _ _ _)
      rw [hm] at hzs
      have b5 := b4.trans (hbm.mono b4.size)
      have d5 := d4.trans (hbm.mono d4.size)
      have HM0 := Lib.hid hm
      have HQ0 := Lib.hid hzs
      have hth : (w4.alloc (.cells lightZ.toArray 37)).there w4.heap.size 0 cl0.toArray.size := by rw [show cl0.toArray.size = 9 from HL0.out]; exact hza.there 0 9 (by decide)
      have hsi : (Tryd.prog.info? 37).map (·.size) = some cl0.toArray.size := by rw [show cl0.toArray.size = 9 from HL0.out]; exact infoLight
      have HTH := Lib.hid hth
      have HSI := Lib.hid hsi
      have HBM0 := Lib.hid hbm
      clear hm hzs hza hbm hth hsi
      obtain ⟨x0, x1, x2⟩ := HXX.out w5 d5
      obtain ⟨a00, a01, a02⟩ := Fi1.out w5 b5
      go_wp2_with ((with_reducible refine store_gate 37 ?_); refine wpList_store_mid rfl 37 _ _ rfl w4.heap.size 0 cl0.toArray rfl rfl HTH.out HSI.out HN0.out ?_; rw [show (w4.alloc (.cells #[.int .u64 0, .int .u64 0, .string ⟨#[]⟩, .string ⟨#[]⟩, .string ⟨#[]⟩, .string ⟨#[]⟩, .string ⟨#[]⟩, .int .u64 0, .slice none 0 0] 37)).setCells w4.heap.size 0 cl0.toArray.toList = w5 from HM0.out])
      clear HTH HSI
      refine (H1a.out w5 b5).mono ?_
      rintro e w6 ⟨cl1, A1, rfl, hlen, hone, ha, hgood, hb⟩
      have b6 := b5.trans (hb.mono b5.size)
      have d6 := d5.trans (hb.mono d5.size)
      have HL1 := Lib.hid hlen
      have HN1 := Lib.hid hone
      have HA1 := Lib.hid ha
      have HG1 := Lib.hid hgood
      have hsz1 := b5.size
      have HBN1 := Lib.hid hb
      clear hb hlen hone ha hgood
      clear x0 x1 x2 a00 a01 a02
      have hza : HasCells (w6.alloc (.cells commZ.toArray 44)) w6.heap.size commZ 44 := HasCells.new _ _ _
      have hzs : HasCells ((w6.alloc (.cells commZ.toArray 44)).setCells w6.heap.size 0 cl1) w6.heap.size cl1 44 := by
        have h := hza.sets cl1 0
        rwa [spl_full (by rw [HL1.out]; rfl)] at h
      obtain ⟨w7, hm⟩ : ∃ W, (w6.alloc (.cells commZ.toArray 44)).setCells w6.heap.size 0 cl1 = W := ⟨_, rfl⟩
      have hbm : Below w6.heap.size w6 w7 := by rw [← hm]; exact ((Below.refl _ _).alloc (Nat.le_refl _) _).trans (sets_below (Nat.le_refl _) _ _ _)
      rw [hm] at hzs
      have b7 := b6.trans (hbm.mono b6.size)
      have d7 := d6.trans (hbm.mono d6.size)
      have HM1 := Lib.hid hm
      have HQ1 := Lib.hid hzs
      have hth : (w6.alloc (.cells commZ.toArray 44)).there w6.heap.size 0 cl1.toArray.size := by rw [show cl1.toArray.size = 2 from HL1.out]; exact hza.there 0 2 (by decide)
      have hsi : (Tryd.prog.info? 44).map (·.size) = some cl1.toArray.size := by rw [show cl1.toArray.size = 2 from HL1.out]; exact infoComm
      have HTH := Lib.hid hth
      have HSI := Lib.hid hsi
      have HBM1 := Lib.hid hbm
      clear hm hzs hza hbm hth hsi
      obtain ⟨x0, x1, x2⟩ := HXX.out w7 d7
      obtain ⟨a00, a01, a02⟩ := Fi2.out w7 b7
      go_wp2_with ((with_reducible refine store_gate 44 ?_); refine wpList_store_mid rfl 44 _ _ rfl w6.heap.size 0 cl1.toArray rfl rfl HTH.out HSI.out HN1.out ?_; rw [show (w6.alloc (.cells #[.slice none 0 0, .string ⟨#[]⟩] 44)).setCells w6.heap.size 0 cl1.toArray.toList = w7 from HM1.out])
      clear HTH HSI
      refine (H2a.out w7 b7).mono ?_
      rintro e w8 ⟨pv2, nv2, cv2, A2, rfl, ha, hgood, hb⟩
      have b8 := b7.trans (hb.mono b7.size)
      have d8 := d7.trans (hb.mono d7.size)
      have HA2 := Lib.hid ha
      have HG2 := Lib.hid hgood
      have HBM2 := Lib.hid hb
      have hsz2 := b7.size
      clear hb ha hgood
      clear x0 x1 x2 a00 a01 a02
      cases A0 with
      | false =>
        have hbad : bootBad X ce = true := by
          have h := HA0.out
          rw [HBD.out, show lightB i0 = true by simpa using h]
          simp
        have HBad := Lib.hid hbad
        clear hbad
        go_wp2_with ((with_reducible refine store_gate 48 ?_); refine wpList_store_mid rfl 48 _ _ rfl w.heap.size 0 bootZ.toArray rfl rfl ((HP.out w8 b8).there 0 12 (by decide)) infoBootR bootZ_one ?_)
        refine bodyPost_ret (results_cells2 rfl _ _ w.heap.size bootZ _ rfl (((HP.out w8 b8).sets bootZ 0).range) Tryd.underlying48 rfl infoBootR) rfl ?_
        exact ⟨.inl ⟨HBad.out, rfl⟩, HB1.out.trans ((b8.mono HB1.out.size).trans (sets_below (Nat.le_refl _) _ _ _))⟩
      | true =>
        cases A1 with
        | false =>
          have hbad : bootBad X ce = true := by
            have h := HA1.out
            rw [HBD.out, show commB i1 = true by simpa using h]
            simp
          have HBad := Lib.hid hbad
          clear hbad
          go_wp2_with ((with_reducible refine store_gate 48 ?_); refine wpList_store_mid rfl 48 _ _ rfl w.heap.size 0 bootZ.toArray rfl rfl ((HP.out w8 b8).there 0 12 (by decide)) infoBootR bootZ_one ?_)
          refine bodyPost_ret (results_cells2 rfl _ _ w.heap.size bootZ _ rfl (((HP.out w8 b8).sets bootZ 0).range) Tryd.underlying48 rfl infoBootR) rfl ?_
          exact ⟨.inl ⟨HBad.out, rfl⟩, HB1.out.trans ((b8.mono HB1.out.size).trans (sets_below (Nat.le_refl _) _ _ _))⟩
        | true =>
          cases A2 with
          | false =>
            have hbad : bootBad X ce = true := by
              have h := HA2.out
              rw [HBD.out, show tsB i2 = true by simpa using h]
              simp
            have HBad := Lib.hid hbad
            clear hbad
            go_wp2_with ((with_reducible refine store_gate 48 ?_); refine wpList_store_mid rfl 48 _ _ rfl w.heap.size 0 bootZ.toArray rfl rfl ((HP.out w8 b8).there 0 12 (by decide)) infoBootR bootZ_one ?_)
            refine bodyPost_ret (results_cells2 rfl _ _ w.heap.size bootZ _ rfl (((HP.out w8 b8).sets bootZ 0).range) Tryd.underlying48 rfl infoBootR) rfl ?_
            exact ⟨.inl ⟨HBad.out, rfl⟩, HB1.out.trans ((b8.mono HB1.out.size).trans (sets_below (Nat.le_refl _) _ _ _))⟩
          | true =>
            obtain ⟨p0, c0, hcl0, hst0, hov0⟩ := HG0.out (by simpa using HA0.out)
            have hce0 : cl0 = [.int .u64 (numV (lh i0 0)), .int .u64 (numV (lh i0 1)), .string (txtB (lh i0 2)), .string (txtB (lh i0 3)), .string (txtB (lh i0 4)), .string (txtB (ly i0 0)), .string (txtB (ly i0 1)), .int .u64 (numV (ly i0 2)), .slice p0 (tsL (li i0 2)).length c0] := hcl0
            subst hce0
            clear hcl0
            have fw : Below w5.heap.size w5 w5 := Below.refl _ _
            replace fw : Below w5.heap.size w5 w6 := fw.trans (HBN1.out.mono fw.size)
            replace fw : Below w5.heap.size w5 w7 := fw.trans (HBM1.out.mono fw.size)
            replace fw : Below w5.heap.size w5 w8 := fw.trans (HBM2.out.mono fw.size)
            have HQF0 := Lib.hid (show HasCells w8 w4.heap.size [.int .u64 (numV (lh i0 0)), .int .u64 (numV (lh i0 1)), .string (txtB (lh i0 2)), .string (txtB (lh i0 3)), .string (txtB (lh i0 4)), .string (txtB (ly i0 0)), .string (txtB (ly i0 1)), .int .u64 (numV (ly i0 2)), .slice p0 (tsL (li i0 2)).length c0] 37 from (fw.block _ HQ0.out.lt).trans HQ0.out)
            clear fw
            have fw : Below w4.heap.size w4 w4 := Below.refl _ _
            replace fw : Below w4.heap.size w4 w5 := fw.trans (HBM0.out.mono fw.size)
            replace fw : Below w4.heap.size w4 w6 := fw.trans (HBN1.out.mono fw.size)
            replace fw : Below w4.heap.size w4 w7 := fw.trans (HBM1.out.mono fw.size)
            replace fw : Below w4.heap.size w4 w8 := fw.trans (HBM2.out.mono fw.size)
            have HS0 := Lib.hid (hst0.below fw)
            have HO0 := Lib.hid (show ∀ j, (Value.slice p0 (tsL (li i0 2)).length c0).ownBlock = some j → w.heap.size ≠ j from fun j e => by have h1 := hov0 j e; have h2 := HLP.out; omega)
            clear fw hst0 hov0
            obtain ⟨p1, c1, hcl1, hst1, hov1⟩ := HG1.out (by simpa using HA1.out)
            have hce1 : cl1 = [.slice p1 (tsL (ci i1 0)).length c1, .string (txtB (ci i1 1))] := hcl1
            subst hce1
            clear hcl1
            have fw : Below w7.heap.size w7 w7 := Below.refl _ _
            replace fw : Below w7.heap.size w7 w8 := fw.trans (HBM2.out.mono fw.size)
            have HQF1 := Lib.hid (show HasCells w8 w6.heap.size [.slice p1 (tsL (ci i1 0)).length c1, .string (txtB (ci i1 1))] 44 from (fw.block _ HQ1.out.lt).trans HQ1.out)
            clear fw
            have fw : Below w6.heap.size w6 w6 := Below.refl _ _
            replace fw : Below w6.heap.size w6 w7 := fw.trans (HBM1.out.mono fw.size)
            replace fw : Below w6.heap.size w6 w8 := fw.trans (HBM2.out.mono fw.size)
            have HS1 := Lib.hid (hst1.below fw)
            have HO1 := Lib.hid (show ∀ j, (Value.slice p1 (tsL (ci i1 0)).length c1).ownBlock = some j → w.heap.size ≠ j from fun j e => by have h1 := hov1 j e; have h2 := HLP.out; omega)
            clear fw hst1 hov1
            obtain ⟨hnv2, hst2, hov2⟩ := HG2.out (by simpa using HA2.out)
            subst hnv2
            have fw : Below w8.heap.size w8 w8 := Below.refl _ _
            have HS2 := Lib.hid (hst2.below fw)
            have HO2 := Lib.hid (show ∀ j, (Value.slice pv2 (tsL i2).length cv2).ownBlock = some j → w.heap.size ≠ j from fun j e => by have h1 := hov2 j e; have h2 := HLP.out; omega)
            clear fw hst2 hov2
            have hone : ([.int .u64 (numV (lh i0 0)), .int .u64 (numV (lh i0 1)), .string (txtB (lh i0 2)), .string (txtB (lh i0 3)), .string (txtB (lh i0 4)), .string (txtB (ly i0 0)), .string (txtB (ly i0 1)), .int .u64 (numV (ly i0 2)), .slice p0 (tsL (li i0 2)).length c0, .slice p1 (tsL (ci i1 0)).length c1, .string (txtB (ci i1 1)), .slice pv2 (tsL i2).length cv2] : List Value).toArray.all (·.oneCell') = true := all_oneCell_toArray (fun v hv => by
              simp only [List.mem_cons, List.not_mem_nil, or_false] at hv
              rcases hv with rfl | rfl | rfl | rfl | rfl | rfl | rfl | rfl | rfl | rfl | rfl | rfl <;> rfl)
            have HOne := Lib.hid hone
            have hfin : HasCells (w8.setCells w.heap.size 0 [.int .u64 (numV (lh i0 0)), .int .u64 (numV (lh i0 1)), .string (txtB (lh i0 2)), .string (txtB (lh i0 3)), .string (txtB (lh i0 4)), .string (txtB (ly i0 0)), .string (txtB (ly i0 1)), .int .u64 (numV (ly i0 2)), .slice p0 (tsL (li i0 2)).length c0, .slice p1 (tsL (ci i1 0)).length c1, .string (txtB (ci i1 1)), .slice pv2 (tsL i2).length cv2]) w.heap.size [.int .u64 (numV (lh i0 0)), .int .u64 (numV (lh i0 1)), .string (txtB (lh i0 2)), .string (txtB (lh i0 3)), .string (txtB (lh i0 4)), .string (txtB (ly i0 0)), .string (txtB (ly i0 1)), .int .u64 (numV (ly i0 2)), .slice p0 (tsL (li i0 2)).length c0, .slice p1 (tsL (ci i1 0)).length c1, .string (txtB (ci i1 1)), .slice pv2 (tsL i2).length cv2] 48 := by
              have h := (HP.out w8 b8).sets [.int .u64 (numV (lh i0 0)), .int .u64 (numV (lh i0 1)), .string (txtB (lh i0 2)), .string (txtB (lh i0 3)), .string (txtB (lh i0 4)), .string (txtB (ly i0 0)), .string (txtB (ly i0 1)), .int .u64 (numV (ly i0 2)), .slice p0 (tsL (li i0 2)).length c0, .slice p1 (tsL (ci i1 0)).length c1, .string (txtB (ci i1 1)), .slice pv2 (tsL i2).length cv2] 0
              rwa [spl_full (by rfl)] at h
            have HFin := Lib.hid hfin
            have hgood : bootBad X ce = false := by
              rw [HBD.out, show lightB i0 = false by simpa using HA0.out, show commB i1 = false by simpa using HA1.out, show tsB i2 = false by simpa using HA2.out]
              rfl
            have HGood := Lib.hid hgood
            have hbw : Below w.heap.size w (w8.setCells w.heap.size 0 [.int .u64 (numV (lh i0 0)), .int .u64 (numV (lh i0 1)), .string (txtB (lh i0 2)), .string (txtB (lh i0 3)), .string (txtB (lh i0 4)), .string (txtB (ly i0 0)), .string (txtB (ly i0 1)), .int .u64 (numV (ly i0 2)), .slice p0 (tsL (li i0 2)).length c0, .slice p1 (tsL (ci i1 0)).length c1, .string (txtB (ci i1 1)), .slice pv2 (tsL i2).length cv2]) := HB1.out.trans ((b8.mono HB1.out.size).trans (sets_below (Nat.le_refl _) _ _ _))
            have HBW := Lib.hid hbw
            have hth : w8.there w.heap.size 0 ([.int .u64 (numV (lh i0 0)), .int .u64 (numV (lh i0 1)), .string (txtB (lh i0 2)), .string (txtB (lh i0 3)), .string (txtB (lh i0 4)), .string (txtB (ly i0 0)), .string (txtB (ly i0 1)), .int .u64 (numV (ly i0 2)), .slice p0 (tsL (li i0 2)).length c0, .slice p1 (tsL (ci i1 0)).length c1, .string (txtB (ci i1 1)), .slice pv2 (tsL i2).length cv2] : List Value).toArray.size := (HP.out w8 b8).there 0 12 (by decide)
            have HTH := Lib.hid hth
            clear hone hfin hgood hbw hth
            obtain ⟨x0, x1, x2⟩ := HXX.out w8 d8
            go_wp2_with (first | ((with_reducible refine load_gate 37 ?_); refine wpList_load_mid rfl 37 _ rfl w4.heap.size 0 rfl [.int .u64 (numV (lh i0 0)), .int .u64 (numV (lh i0 1)), .string (txtB (lh i0 2)), .string (txtB (lh i0 3)), .string (txtB (lh i0 4)), .string (txtB (ly i0 0)), .string (txtB (ly i0 1)), .int .u64 (numV (ly i0 2)), .slice p0 (tsL (li i0 2)).length c0] _ HQF0.out.range Tryd.underlying37 rfl infoLight ?_) | ((with_reducible refine load_gate 44 ?_); refine wpList_load_mid rfl 44 _ rfl w6.heap.size 0 rfl [.slice p1 (tsL (ci i1 0)).length c1, .string (txtB (ci i1 1))] _ HQF1.out.range Tryd.underlying44 rfl infoComm ?_) | ((with_reducible refine store_gate 48 ?_); refine wpList_store_mid rfl 48 _ _ rfl w.heap.size 0 ([.int .u64 (numV (lh i0 0)), .int .u64 (numV (lh i0 1)), .string (txtB (lh i0 2)), .string (txtB (lh i0 3)), .string (txtB (lh i0 4)), .string (txtB (ly i0 0)), .string (txtB (ly i0 1)), .int .u64 (numV (ly i0 2)), .slice p0 (tsL (li i0 2)).length c0, .slice p1 (tsL (ci i1 0)).length c1, .string (txtB (ci i1 1)), .slice pv2 (tsL i2).length cv2] : List Value).toArray rfl rfl HTH.out infoBootR HOne.out ?_))
            refine bodyPost_ret (results_cells2 rfl _ (w8.setCells w.heap.size 0 [.int .u64 (numV (lh i0 0)), .int .u64 (numV (lh i0 1)), .string (txtB (lh i0 2)), .string (txtB (lh i0 3)), .string (txtB (lh i0 4)), .string (txtB (ly i0 0)), .string (txtB (ly i0 1)), .int .u64 (numV (ly i0 2)), .slice p0 (tsL (li i0 2)).length c0, .slice p1 (tsL (ci i1 0)).length c1, .string (txtB (ci i1 1)), .slice pv2 (tsL i2).length cv2]) w.heap.size [.int .u64 (numV (lh i0 0)), .int .u64 (numV (lh i0 1)), .string (txtB (lh i0 2)), .string (txtB (lh i0 3)), .string (txtB (lh i0 4)), .string (txtB (ly i0 0)), .string (txtB (ly i0 1)), .int .u64 (numV (ly i0 2)), .slice p0 (tsL (li i0 2)).length c0, .slice p1 (tsL (ci i1 0)).length c1, .string (txtB (ci i1 1)), .slice pv2 (tsL i2).length cv2] _ rfl HFin.out.range Tryd.underlying48 rfl infoBootR) rfl ?_
            rw [HI0.out, HI1.out, HI2.out]
            refine ⟨.inr ⟨HGood.out, p0, p1, pv2, c0, c1, cv2, ?_, HS0.out.upon (Upon.sets w.heap.size [.int .u64 (numV (lh i0 0)), .int .u64 (numV (lh i0 1)), .string (txtB (lh i0 2)), .string (txtB (lh i0 3)), .string (txtB (lh i0 4)), .string (txtB (ly i0 0)), .string (txtB (ly i0 1)), .int .u64 (numV (ly i0 2)), .slice p0 (tsL (li i0 2)).length c0, .slice p1 (tsL (ci i1 0)).length c1, .string (txtB (ci i1 1)), .slice pv2 (tsL i2).length cv2] 0 w8) (fun e => HO0.out _ e rfl), HS1.out.upon (Upon.sets w.heap.size [.int .u64 (numV (lh i0 0)), .int .u64 (numV (lh i0 1)), .string (txtB (lh i0 2)), .string (txtB (lh i0 3)), .string (txtB (lh i0 4)), .string (txtB (ly i0 0)), .string (txtB (ly i0 1)), .int .u64 (numV (ly i0 2)), .slice p0 (tsL (li i0 2)).length c0, .slice p1 (tsL (ci i1 0)).length c1, .string (txtB (ci i1 1)), .slice pv2 (tsL i2).length cv2] 0 w8) (fun e => HO1.out _ e rfl), HS2.out.upon (Upon.sets w.heap.size [.int .u64 (numV (lh i0 0)), .int .u64 (numV (lh i0 1)), .string (txtB (lh i0 2)), .string (txtB (lh i0 3)), .string (txtB (lh i0 4)), .string (txtB (ly i0 0)), .string (txtB (ly i0 1)), .int .u64 (numV (ly i0 2)), .slice p0 (tsL (li i0 2)).length c0, .slice p1 (tsL (ci i1 0)).length c1, .string (txtB (ci i1 1)), .slice pv2 (tsL i2).length cv2] 0 w8) (fun e => HO2.out _ e rfl)⟩, HBW.out⟩
            rw [HCs.out]
            rfl
end Go.Proofs.YtfbopnebfdkhdaaDoor
/- Contract of pharosref13.From. -/
namespace Go.Proofs.YtfbopnebfdkhdaaDoor
open Go.RowKit Go.Shelf Go.Lib
attribute [local go_sem] Oper.semAt_some

theorem updZ_one : updZ.toArray.all (·.oneCell') = true := all_oneCell_toArray (fun v hv => by
  unfold updZ at hv
  simp only [List.mem_cons, List.not_mem_nil, or_false] at hv
  rcases hv with rfl | rfl | rfl | rfl | rfl | rfl | rfl | rfl | rfl | rfl | rfl | rfl | rfl | rfl | rfl | rfl | rfl | rfl | rfl | rfl | rfl | rfl | rfl | rfl | rfl <;> rfl)
set_option maxRecDepth 100000 in
set_option maxHeartbeats 25600000 in
theorem rupdFrom_any (s : List UInt8) (w : World) (hs : s.length ≤ 1099511627776) : Calls Tryd.prog 26 #[.string ⟨s.toArray⟩] w fun e w' => ((updBad (decode s).1 (decode s).2 = true ∧ e = .returned (.tuple #[.agg updZ.toArray, .int .i64 130])) ∨ (updBad (decode s).1 (decode s).2 = false ∧ ∃ (p0 p1 p2 p3 p4 : Option Addr) (c0 c1 c2 c3 c4 : Nat), e = .returned (.tuple #[.agg (updC (decode s).1 (.slice p0 (tsL (li (updI (decode s).1 0) 2)).length c0) (.slice p1 (tsL (ci (updI (decode s).1 1) 0)).length c1) (.slice p2 (tsL (updI (decode s).1 2)).length c2) (.slice p3 (tsL (li (updI (decode s).1 3) 2)).length c3) (.slice p4 (tsL (updI (decode s).1 4)).length c4)).toArray, .int .i64 0]) ∧ Strs w' (.slice p0 (tsL (li (updI (decode s).1 0) 2)).length c0) (tsL (li (updI (decode s).1 0) 2)) ∧ Strs w' (.slice p1 (tsL (ci (updI (decode s).1 1) 0)).length c1) (tsL (ci (updI (decode s).1 1) 0)) ∧ Strs w' (.slice p2 (tsL (updI (decode s).1 2)).length c2) (tsL (updI (decode s).1 2)) ∧ Strs w' (.slice p3 (tsL (li (updI (decode s).1 3) 2)).length c3) (tsL (li (updI (decode s).1 3) 2)) ∧ Strs w' (.slice p4 (tsL (updI (decode s).1 4)).length c4) (tsL (updI (decode s).1 4)))) ∧ Below w.heap.size w w' := by
  have hz := decode_size s
  obtain ⟨w0, hw0⟩ : ∃ W, w.alloc (.cells updZ.toArray 52) = W := ⟨_, rfl⟩
  have HD := Lib.hid (decodeRef_any s w0 hs)
  obtain ⟨X, hX⟩ : ∃ X, (decode s).1 = X := ⟨_, rfl⟩
  obtain ⟨ce, hC⟩ : ∃ C, (decode s).2 = C := ⟨_, rfl⟩
  rw [hX] at hz
  rw [hX, hC]
  have hp0 : HasCells w0 w.heap.size updZ 52 := by rw [← hw0]; exact HasCells.new w _ _
  have hb0 : Below w.heap.size w w0 := by rw [← hw0]; exact (Below.refl _ _).alloc (Nat.le_refl _) _
  have HX := Lib.hid hX
  have HC := Lib.hid hC
  have HZ := Lib.hid hz
  have HP0 := Lib.hid hp0
  have HB0 := Lib.hid hb0
  have HW0 := Lib.hid hw0
  clear hs hX hC hz hp0 hb0 hw0
  go_enter Tryd.func26, Tryd.ntmps26
  go_wp2_with fail
  rw [show w.alloc (.cells #[.int .u64 0, .int .u64 0, .string ⟨#[]⟩, .string ⟨#[]⟩, .string ⟨#[]⟩, .string ⟨#[]⟩, .string ⟨#[]⟩, .int .u64 0, .slice none 0 0, .slice none 0 0, .string ⟨#[]⟩, .slice none 0 0, .int .u64 0, .int .u64 0, .string ⟨#[]⟩, .string ⟨#[]⟩, .string ⟨#[]⟩, .string ⟨#[]⟩, .string ⟨#[]⟩, .int .u64 0, .slice none 0 0, .slice none 0 0, .int .u64 0, .string ⟨#[]⟩, .int .u64 0] 52) = w0 from HW0.out]
  refine HD.out.mono ?_
  rintro e w1 ⟨hb1, x, ce', p, c, rfl, hdec, hrd⟩
  obtain rfl : X = x := by rw [← HX.out, hdec.out]
  obtain rfl : ce = ce' := by rw [← HC.out, hdec.out]
  have HB1 := Lib.hid (HB0.out.trans (hb1.mono HB0.out.size))
  have HR := Lib.hid hrd.out
  have HP := Lib.hid (show ∀ W, Below w1.heap.size w1 W → HasCells W w.heap.size updZ 52 from fun W hb => by
    have h1 : HasCells w1 w.heap.size updZ 52 := (hb1.block _ HP0.out.lt).trans HP0.out
    exact (hb.block _ h1.lt).trans h1)
  have hlp : w.heap.size + 1 ≤ w1.heap.size := by have := (HP.out w1 (Below.refl _ _)).lt; omega
  have HLP := Lib.hid hlp
  clear hdec hrd hb1 HD hlp
  have hcb : (ce != 0) = decide (ce ≠ 0) := by by_cases hc : ce = 0 <;> simp [hc]
  obtain ⟨E, hE⟩ : ∃ E, decide (ce ≠ 0) = E := ⟨_, rfl⟩
  rw [hE] at hcb
  have HE := Lib.hid hE
  clear hE
  have b1 : Below w1.heap.size w1 w1 := Below.refl _ _
  obtain ⟨ib, hib⟩ : ∃ v, X.isList = v := ⟨_, rfl⟩
  have HIB := Lib.hid hib
  obtain ⟨m0, hm0⟩ : ∃ v, (X.isList && ((X.list.length : Int) == 8)) = v := ⟨_, rfl⟩
  have HO0 := Lib.hid (show opnB X 8 = !m0 by rw [← hm0]; exact opnB_many X 8)
  have HM0 := Lib.hid hm0
  have G0 := fun W => many_any X.isList (txtB X) p X.list.length c 8 W
  rw [hm0] at G0
  have H0 := Lib.hid G0
  obtain ⟨w2, hw2⟩ : ∃ W, w1.alloc (.cells #[.bool X.isList, .string (txtB X), .slice p X.list.length c] 80) = W := ⟨_, rfl⟩
  have HW2 := Lib.hid hw2
  have b2 : Below w1.heap.size w1 w2 := by rw [← hw2]; exact (Below.refl _ _).alloc (Nat.le_refl _) _
  have HXX := Lib.hid (show ∀ W, Below w2.heap.size w2 W → W.cell? ⟨w1.heap.size, 0, none⟩ = some (.bool X.isList) ∧ W.cell? ⟨w1.heap.size, 1, none⟩ = some (.string (txtB X)) ∧ W.cell? ⟨w1.heap.size, 2, none⟩ = some (.slice p X.list.length c) from fun W hb => by
    refine cells_three (t := 80) ?_
    rw [← hw2] at hb
    exact hb)
  clear hib hm0 G0 hw2 b1
  cases E with
  | true =>
    have hbad : updBad X ce = true := by unfold updBad; rw [HE.out]; simp
    have HBad := Lib.hid hbad
    clear hbad
    rw [show (Value.string ⟨X.text.toArray⟩) = .string (txtB X) from rfl]
    obtain ⟨q, hq⟩ : ∃ q, X.list.length = q := ⟨_, rfl⟩
    obtain ⟨ib2, hib2⟩ : ∃ v, X.isList = v := ⟨_, rfl⟩
    obtain ⟨tx, htx⟩ : ∃ v, txtB X = v := ⟨_, rfl⟩
    rw [hq, hib2, htx] at HW2 ⊢
    clear hq hib2 htx
    have hP := (HP.out w2 b2)
    rw [← HW2.out] at hP
    have HPX := Lib.hid hP
    clear hP
    go_wp2_with ((with_reducible refine store_gate 52 ?_); refine wpList_store_mid rfl 52 _ _ rfl w.heap.size 0 updZ.toArray rfl rfl (HPX.out.there 0 25 (by decide)) infoUpdateR updZ_one ?_)
    rw [show w1.alloc (.cells #[.bool ib2, .string tx, .slice p q c] 80) = w2 from HW2.out]
    refine bodyPost_ret (results_cells2 rfl _ _ w.heap.size updZ _ rfl (((HP.out w2 b2).sets updZ 0).range) Tryd.underlying52 rfl infoUpdateR) rfl ?_
    exact ⟨.inl ⟨HBad.out, rfl⟩, HB1.out.trans ((b2.mono HB1.out.size).trans (sets_below (Nat.le_refl _) _ _ _))⟩
  | false =>
    go_wp2_with fail
    rw [show w1.alloc (.cells #[.bool X.isList, .string ⟨X.text.toArray⟩, .slice p X.list.length c] 80) = w2 from HW2.out]
    refine (H0.out w2).mono ?_
    rintro e w3 ⟨rfl, hb3⟩
    have b3 := b2.trans (hb3.mono b2.size)
    have d3 : Below w2.heap.size w2 w3 := hb3
    clear hb3
    cases m0 with
    | false =>
      have hbad : updBad X ce = true := by unfold updBad; rw [HO0.out]; simp
      have HBad := Lib.hid hbad
      clear hbad
      go_wp2_with ((with_reducible refine store_gate 52 ?_); refine wpList_store_mid rfl 52 _ _ rfl w.heap.size 0 updZ.toArray rfl rfl ((HP.out w3 b3).there 0 25 (by decide)) infoUpdateR updZ_one ?_)
      refine bodyPost_ret (results_cells2 rfl _ _ w.heap.size updZ _ rfl (((HP.out w3 b3).sets updZ 0).range) Tryd.underlying52 rfl infoUpdateR) rfl ?_
      exact ⟨.inl ⟨HBad.out, rfl⟩, HB1.out.trans ((b3.mono HB1.out.size).trans (sets_below (Nat.le_refl _) _ _ _))⟩
    | true =>
      obtain ⟨hil, hlM⟩ := many_list (m := 8) HM0.out
      obtain ⟨i0, i1, i2, i3, i4, i5, i6, i7, hxs⟩ : ∃ i0 i1 i2 i3 i4 i5 i6 i7, X.list = [i0, i1, i2, i3, i4, i5, i6, i7] := by
        match hh : X.list, hlM with
        | [i0, i1, i2, i3, i4, i5, i6, i7], _ => exact ⟨i0, i1, i2, i3, i4, i5, i6, i7, rfl⟩
      obtain ⟨gx, ox, rfl, hrow⟩ := Reads.row (HR.out) (by rw [hxs]; exact Nat.succ_pos _)
      obtain ⟨pi0, ci0, hf, hri0⟩ := hrow 0 i0 (by rw [hxs]; rfl)
      have Fi0 := Lib.hid (show ItAt w1 gx (ox) i0 (.slice pi0 i0.list.length ci0) from fun W hb => by have := hf W hb; simpa [Nat.add_assoc] using this)
      have Ri0 := Lib.hid hri0
      clear hf hri0
      obtain ⟨pi1, ci1, hf, hri1⟩ := hrow 1 i1 (by rw [hxs]; rfl)
      have Fi1 := Lib.hid (show ItAt w1 gx (ox + 3) i1 (.slice pi1 i1.list.length ci1) from fun W hb => by have := hf W hb; simpa [Nat.add_assoc] using this)
      have Ri1 := Lib.hid hri1
      clear hf hri1
      obtain ⟨pi2, ci2, hf, hri2⟩ := hrow 2 i2 (by rw [hxs]; rfl)
      have Fi2 := Lib.hid (show ItAt w1 gx (ox + 6) i2 (.slice pi2 i2.list.length ci2) from fun W hb => by have := hf W hb; simpa [Nat.add_assoc] using this)
      have Ri2 := Lib.hid hri2
      clear hf hri2
      obtain ⟨pi3, ci3, hf, hri3⟩ := hrow 3 i3 (by rw [hxs]; rfl)
      have Fi3 := Lib.hid (show ItAt w1 gx (ox + 9) i3 (.slice pi3 i3.list.length ci3) from fun W hb => by have := hf W hb; simpa [Nat.add_assoc] using this)
      have Ri3 := Lib.hid hri3
      clear hf hri3
      obtain ⟨pi4, ci4, hf, hri4⟩ := hrow 4 i4 (by rw [hxs]; rfl)
      have Fi4 := Lib.hid (show ItAt w1 gx (ox + 12) i4 (.slice pi4 i4.list.length ci4) from fun W hb => by have := hf W hb; simpa [Nat.add_assoc] using this)
      have Ri4 := Lib.hid hri4
      clear hf hri4
      obtain ⟨pi5, ci5, hf, hri5⟩ := hrow 5 i5 (by rw [hxs]; rfl)
      have Fi5 := Lib.hid (show ItAt w1 gx (ox + 15) i5 (.slice pi5 i5.list.length ci5) from fun W hb => by have := hf W hb; simpa [Nat.add_assoc] using this)
      have Ri5 := Lib.hid hri5
      clear hf hri5
      obtain ⟨pi6, ci6, hf, hri6⟩ := hrow 6 i6 (by rw [hxs]; rfl)
      have Fi6 := Lib.hid (show ItAt w1 gx (ox + 18) i6 (.slice pi6 i6.list.length ci6) from fun W hb => by have := hf W hb; simpa [Nat.add_assoc] using this)
      have Ri6 := Lib.hid hri6
      clear hf hri6
      obtain ⟨pi7, ci7, hf, hri7⟩ := hrow 7 i7 (by rw [hxs]; rfl)
      have Fi7 := Lib.hid (show ItAt w1 gx (ox + 21) i7 (.slice pi7 i7.list.length ci7) from fun W hb => by have := hf W hb; simpa [Nat.add_assoc] using this)
      have Ri7 := Lib.hid hri7
      clear hf hri7
      clear hrow
      have hop : opnL X 8 = [i0, i1, i2, i3, i4, i5, i6, i7] := by rw [opnL_good (by rw [HO0.out]; rfl), hxs]
      have l0 : updI X 0 = i0 := by unfold updI; rw [hop]; rfl
      have l1 : updI X 1 = i1 := by unfold updI; rw [hop]; rfl
      have l2 : updI X 2 = i2 := by unfold updI; rw [hop]; rfl
      have l3 : updI X 3 = i3 := by unfold updI; rw [hop]; rfl
      have l4 : updI X 4 = i4 := by unfold updI; rw [hop]; rfl
      have l5 : updI X 5 = i5 := by unfold updI; rw [hop]; rfl
      have l6 : updI X 6 = i6 := by unfold updI; rw [hop]; rfl
      have l7 : updI X 7 = i7 := by unfold updI; rw [hop]; rfl
      have hbd : updBad X ce = (lightB i0 || commB i1 || tsB i2 || lightB i3 || tsB i4 || numB i5 || (i6).isList || numB i7) := by
        unfold updBad
        rw [HO0.out, HE.out, l0, l1, l2, l3, l4, l5, l6, l7]
        simp
      have HBD := Lib.hid hbd
      have hzs : i0.size ≤ 1099511627775 ∧ i1.size ≤ 1099511627775 ∧ i2.size ≤ 1099511627775 ∧ i3.size ≤ 1099511627775 ∧ i4.size ≤ 1099511627775 ∧ i5.size ≤ 1099511627775 ∧ i6.size ≤ 1099511627775 ∧ i7.size ≤ 1099511627775 := by
        have h1 := HZ.out
        rw [Item.size_eq, hxs] at h1
        simp only [sizeAll] at h1
        omega
      have HZS := Lib.hid hzs
      have HCs := Lib.hid (show ∀ V0 V1 V2 V3 V4, updC X V0 V1 V2 V3 V4 = [.int .u64 (numV (lh i0 0)), .int .u64 (numV (lh i0 1)), .string (txtB (lh i0 2)), .string (txtB (lh i0 3)), .string (txtB (lh i0 4)), .string (txtB (ly i0 0)), .string (txtB (ly i0 1)), .int .u64 (numV (ly i0 2)), V0, V1, .string (txtB (ci i1 1)), V2, .int .u64 (numV (lh i3 0)), .int .u64 (numV (lh i3 1)), .string (txtB (lh i3 2)), .string (txtB (lh i3 3)), .string (txtB (lh i3 4)), .string (txtB (ly i3 0)), .string (txtB (ly i3 1)), .int .u64 (numV (ly i3 2)), V3, V4, .int .u64 (numV i5), .string (txtB i6), .int .u64 (numV i7)] from fun _ _ _ _ _ => by
        unfold updC
        rw [l0, l1, l3, l5, l6, l7]
        simp only [lightC, commC, List.cons_append, List.nil_append])
      have HI0 := Lib.hid l0
      have H0a := Lib.hid (fun W (hb : Below w1.heap.size w1 W) => lightOf_gen i0 pi0 ci0 W (Ri0.out.below hb hb.size) HZS.out.1)
      have HI1 := Lib.hid l1
      have H1a := Lib.hid (fun W (hb : Below w1.heap.size w1 W) => committeeOf_gen i1 pi1 ci1 W (Ri1.out.below hb hb.size) HZS.out.2.1)
      have HI2 := Lib.hid l2
      have H2a := Lib.hid (fun W (hb : Below w1.heap.size w1 W) => textsOf_gen i2 pi2 ci2 W (Ri2.out.below hb hb.size) HZS.out.2.2.1)
      have HI3 := Lib.hid l3
      have H3a := Lib.hid (fun W (hb : Below w1.heap.size w1 W) => lightOf_gen i3 pi3 ci3 W (Ri3.out.below hb hb.size) HZS.out.2.2.2.1)
      have HI4 := Lib.hid l4
      have H4a := Lib.hid (fun W (hb : Below w1.heap.size w1 W) => textsOf_gen i4 pi4 ci4 W (Ri4.out.below hb hb.size) HZS.out.2.2.2.2.1)
      have HI5 := Lib.hid l5
      have H5a := Lib.hid (fun W => numberOf_any i5 pi5 i5.list.length ci5 W)
      have HI6 := Lib.hid l6
      have HI7 := Lib.hid l7
      have H7a := Lib.hid (fun W => numberOf_any i7 pi7 i7.list.length ci7 W)
      rw [hlM] at HXX
      clear hop hbd hzs l0 l1 l2 l3 l4 l5 l6 l7 hlM hil
      obtain ⟨jb, hjb⟩ : ∃ v, i6.isList = v := ⟨_, rfl⟩
      have HJB := Lib.hid hjb
      obtain ⟨x0, x1, x2⟩ := HXX.out w3 d3
      obtain ⟨a00, a01, a02⟩ := Fi6.out w3 b3
      rw [hjb] at a00
      clear hjb
      cases jb with
      | true =>
        have hbad : updBad X ce = true := by rw [HBD.out, HJB.out]; simp
        have HBad := Lib.hid hbad
        clear hbad
        go_wp2_with ((with_reducible refine store_gate 52 ?_); refine wpList_store_mid rfl 52 _ _ rfl w.heap.size 0 updZ.toArray rfl rfl ((HP.out w3 b3).there 0 25 (by decide)) infoUpdateR updZ_one ?_)
        refine bodyPost_ret (results_cells2 rfl _ _ w.heap.size updZ _ rfl (((HP.out w3 b3).sets updZ 0).range) Tryd.underlying52 rfl infoUpdateR) rfl ?_
        exact ⟨.inl ⟨HBad.out, rfl⟩, HB1.out.trans ((b3.mono HB1.out.size).trans (sets_below (Nat.le_refl _) _ _ _))⟩
      | false =>
        obtain ⟨a10, a11, a12⟩ := Fi0.out w3 b3
        go_wp2_with fail
        refine (H0a.out w3 b3).mono ?_
        rintro e w4 ⟨cl0, A0, rfl, hlen, hone, ha, hgood, hb⟩
        have b4 := b3.trans (hb.mono b3.size)
        have d4 := d3.trans (hb.mono d3.size)
        have HL0 := Lib.hid hlen
        have HN0 := Lib.hid hone
        have HA0 := Lib.hid ha
        have HG0 := Lib.hid hgood
        have hsz0 := b3.size
        have HBN0 := Lib.hid hb
        clear hb hlen hone ha hgood
        clear x0 x1 x2 a00 a01 a02 a10 a11 a12
        have hza : HasCells (w4.alloc (.cells lightZ.toArray 37)) w4.heap.size lightZ 37 := HasCells.new _ _ _
        have hzs : HasCells ((w4.alloc (.cells lightZ.toArray 37)).setCells w4.heap.size 0 cl0) w4.heap.size cl0 37 := by
          have h := hza.sets cl0 0
          rwa [spl_full (by rw [HL0.out]; rfl)] at h
        obtain ⟨w5, hm⟩ : ∃ W, (w4.alloc (.cells lightZ.toArray 37)).setCells w4.heap.size 0 cl0 = W := ⟨_, rfl⟩
        have hbm : Below w4.heap.size w4 w5 := by rw [← hm]; exact ((Below.refl _ _).alloc (Nat.le_refl _) _).trans (sets_below (Nat.le_refl _) _ _ _)
        rw [hm] at hzs
        have b5 := b4.trans (hbm.mono b4.size)
        have d5 := d4.trans (hbm.mono d4.size)
        have HM0 := Lib.hid hm
        have HQ0 := Lib.hid hzs
        have hth : (w4.alloc (.cells lightZ.toArray 37)).there w4.heap.size 0 cl0.toArray.size := by rw [show cl0.toArray.size = 9 from HL0.out]; exact hza.there 0 9 (by decide)
        have hsi : (Tryd.prog.info? 37).map (·.size) = some cl0.toArray.size := by rw [show cl0.toArray.size = 9 from HL0.out]; exact infoLight
        have HTH := Lib.hid hth
        have HSI := Lib.hid hsi
        have HBM0 := Lib.hid hbm
        clear hm hzs hza hbm hth hsi
        obtain ⟨x0, x1, x2⟩ := HXX.out w5 d5
        obtain ⟨a00, a01, a02⟩ := Fi1.out w5 b5
        go_wp2_with ((with_reducible refine store_gate 37 ?_); refine wpList_store_mid rfl 37 _ _ rfl w4.heap.size 0 cl0.toArray rfl rfl HTH.out HSI.out HN0.out ?_; rw [show (w4.alloc (.cells #[.int .u64 0, .int .u64 0, .string ⟨#[]⟩, .string ⟨#[]⟩, .string ⟨#[]⟩, .string ⟨#[]⟩, .string ⟨#[]⟩, .int .u64 0, .slice none 0 0] 37)).setCells w4.heap.size 0 cl0.toArray.toList = w5 from HM0.out])
        clear HTH HSI
        refine (H1a.out w5 b5).mono ?_
        rintro e w6 ⟨cl1, A1, rfl, hlen, hone, ha, hgood, hb⟩
        have b6 := b5.trans (hb.mono b5.size)
        have d6 := d5.trans (hb.mono d5.size)
        have HL1 := Lib.hid hlen
        have HN1 := Lib.hid hone
        have HA1 := Lib.hid ha
        have HG1 := Lib.hid hgood
        have hsz1 := b5.size
        have HBN1 := Lib.hid hb
        clear hb hlen hone ha hgood
        clear x0 x1 x2 a00 a01 a02
        have hza : HasCells (w6.alloc (.cells commZ.toArray 44)) w6.heap.size commZ 44 := HasCells.new _ _ _
        have hzs : HasCells ((w6.alloc (.cells commZ.toArray 44)).setCells w6.heap.size 0 cl1) w6.heap.size cl1 44 := by
          have h := hza.sets cl1 0
          rwa [spl_full (by rw [HL1.out]; rfl)] at h
        obtain ⟨w7, hm⟩ : ∃ W, (w6.alloc (.cells commZ.toArray 44)).setCells w6.heap.size 0 cl1 = W := ⟨_, rfl⟩
        have hbm : Below w6.heap.size w6 w7 := by rw [← hm]; exact ((Below.refl _ _).alloc (Nat.le_refl _) _).trans (sets_below (Nat.le_refl _) _ _ _)
        rw [hm] at hzs
        have b7 := b6.trans (hbm.mono b6.size)
        have d7 := d6.trans (hbm.mono d6.size)
        have HM1 := Lib.hid hm
        have HQ1 := Lib.hid hzs
        have hth : (w6.alloc (.cells commZ.toArray 44)).there w6.heap.size 0 cl1.toArray.size := by rw [show cl1.toArray.size = 2 from HL1.out]; exact hza.there 0 2 (by decide)
        have hsi : (Tryd.prog.info? 44).map (·.size) = some cl1.toArray.size := by rw [show cl1.toArray.size = 2 from HL1.out]; exact infoComm
        have HTH := Lib.hid hth
        have HSI := Lib.hid hsi
        have HBM1 := Lib.hid hbm
        clear hm hzs hza hbm hth hsi
        obtain ⟨x0, x1, x2⟩ := HXX.out w7 d7
        obtain ⟨a00, a01, a02⟩ := Fi2.out w7 b7
        go_wp2_with ((with_reducible refine store_gate 44 ?_); refine wpList_store_mid rfl 44 _ _ rfl w6.heap.size 0 cl1.toArray rfl rfl HTH.out HSI.out HN1.out ?_; rw [show (w6.alloc (.cells #[.slice none 0 0, .string ⟨#[]⟩] 44)).setCells w6.heap.size 0 cl1.toArray.toList = w7 from HM1.out])
        clear HTH HSI
        refine (H2a.out w7 b7).mono ?_
        rintro e w8 ⟨pv2, nv2, cv2, A2, rfl, ha, hgood, hb⟩
        have b8 := b7.trans (hb.mono b7.size)
        have d8 := d7.trans (hb.mono d7.size)
        have HA2 := Lib.hid ha
        have HG2 := Lib.hid hgood
        have HBM2 := Lib.hid hb
        have hsz2 := b7.size
        clear hb ha hgood
        clear x0 x1 x2 a00 a01 a02
        obtain ⟨x0, x1, x2⟩ := HXX.out w8 d8
        obtain ⟨a00, a01, a02⟩ := Fi3.out w8 b8
        go_wp2_with fail
        refine (H3a.out w8 b8).mono ?_
        rintro e w9 ⟨cl3, A3, rfl, hlen, hone, ha, hgood, hb⟩
        have b9 := b8.trans (hb.mono b8.size)
        have d9 := d8.trans (hb.mono d8.size)
        have HL3 := Lib.hid hlen
        have HN3 := Lib.hid hone
        have HA3 := Lib.hid ha
        have HG3 := Lib.hid hgood
        have hsz3 := b8.size
        have HBN3 := Lib.hid hb
        clear hb hlen hone ha hgood
        clear x0 x1 x2 a00 a01 a02
        have hza : HasCells (w9.alloc (.cells lightZ.toArray 37)) w9.heap.size lightZ 37 := HasCells.new _ _ _
        have hzs : HasCells ((w9.alloc (.cells lightZ.toArray 37)).setCells w9.heap.size 0 cl3) w9.heap.size cl3 37 := by
          have h := hza.sets cl3 0
          rwa [spl_full (by rw [HL3.out]; rfl)] at h
        obtain ⟨w10, hm⟩ : ∃ W, (w9.alloc (.cells lightZ.toArray 37)).setCells w9.heap.size 0 cl3 = W := ⟨_, rfl⟩
        have hbm : Below w9.heap.size w9 w10 := by rw [← hm]; exact ((Below.refl _ _).alloc (Nat.le_refl _) _).trans (sets_below (Nat.le_refl _) _ _ _)
        rw [hm] at hzs
        have b10 := b9.trans (hbm.mono b9.size)
        have d10 := d9.trans (hbm.mono d9.size)
        have HM3 := Lib.hid hm
        have HQ3 := Lib.hid hzs
        have hth : (w9.alloc (.cells lightZ.toArray 37)).there w9.heap.size 0 cl3.toArray.size := by rw [show cl3.toArray.size = 9 from HL3.out]; exact hza.there 0 9 (by decide)
        have hsi : (Tryd.prog.info? 37).map (·.size) = some cl3.toArray.size := by rw [show cl3.toArray.size = 9 from HL3.out]; exact infoLight
        have HTH := Lib.hid hth
        have HSI := Lib.hid hsi
        have HBM3 := Lib.hid hbm
        clear hm hzs hza hbm hth hsi
        obtain ⟨x0, x1, x2⟩ := HXX.out w10 d10
        obtain ⟨a00, a01, a02⟩ := Fi4.out w10 b10
        go_wp2_with ((with_reducible refine store_gate 37 ?_); refine wpList_store_mid rfl 37 _ _ rfl w9.heap.size 0 cl3.toArray rfl rfl HTH.out HSI.out HN3.out ?_; rw [show (w9.alloc (.cells #[.int .u64 0, .int .u64 0, .string ⟨#[]⟩, .string ⟨#[]⟩, .string ⟨#[]⟩, .string ⟨#[]⟩, .string ⟨#[]⟩, .int .u64 0, .slice none 0 0] 37)).setCells w9.heap.size 0 cl3.toArray.toList = w10 from HM3.out])
        clear HTH HSI
        refine (H4a.out w10 b10).mono ?_
        rintro e w11 ⟨pv4, nv4, cv4, A4, rfl, ha, hgood, hb⟩
        have b11 := b10.trans (hb.mono b10.size)
        have d11 := d10.trans (hb.mono d10.size)
        have HA4 := Lib.hid ha
        have HG4 := Lib.hid hgood
        have HBM4 := Lib.hid hb
        have hsz4 := b10.size
        clear hb ha hgood
        clear x0 x1 x2 a00 a01 a02
        obtain ⟨x0, x1, x2⟩ := HXX.out w11 d11
        obtain ⟨a00, a01, a02⟩ := Fi5.out w11 b11
        go_wp2_with fail
        refine (H5a.out w11).mono ?_
        rintro e w12 ⟨rfl, hb⟩
        have b12 := b11.trans (hb.mono b11.size)
        have d12 := d11.trans (hb.mono d11.size)
        have HBM5 := Lib.hid hb
        clear hb
        clear x0 x1 x2 a00 a01 a02
        obtain ⟨A5, hA⟩ : ∃ v, (!(numB i5)) = v := ⟨_, rfl⟩
        rw [hA]
        have HA5 := Lib.hid hA.symm
        clear hA
        obtain ⟨x0, x1, x2⟩ := HXX.out w12 d12
        obtain ⟨a00, a01, a02⟩ := Fi7.out w12 b12
        go_wp2_with fail
        refine (H7a.out w12).mono ?_
        rintro e w13 ⟨rfl, hb⟩
        have b13 := b12.trans (hb.mono b12.size)
        have d13 := d12.trans (hb.mono d12.size)
        have HBM7 := Lib.hid hb
        clear hb
        clear x0 x1 x2 a00 a01 a02
        obtain ⟨A7, hA⟩ : ∃ v, (!(numB i7)) = v := ⟨_, rfl⟩
        rw [hA]
        have HA7 := Lib.hid hA.symm
        clear hA
        cases A0 with
        | false =>
          have hbad : updBad X ce = true := by
            have h := HA0.out
            rw [HBD.out, show lightB i0 = true by simpa using h]
            simp
          have HBad := Lib.hid hbad
          clear hbad
          go_wp2_with ((with_reducible refine store_gate 52 ?_); refine wpList_store_mid rfl 52 _ _ rfl w.heap.size 0 updZ.toArray rfl rfl ((HP.out w13 b13).there 0 25 (by decide)) infoUpdateR updZ_one ?_)
          refine bodyPost_ret (results_cells2 rfl _ _ w.heap.size updZ _ rfl (((HP.out w13 b13).sets updZ 0).range) Tryd.underlying52 rfl infoUpdateR) rfl ?_
          exact ⟨.inl ⟨HBad.out, rfl⟩, HB1.out.trans ((b13.mono HB1.out.size).trans (sets_below (Nat.le_refl _) _ _ _))⟩
        | true =>
          cases A1 with
          | false =>
            have hbad : updBad X ce = true := by
              have h := HA1.out
              rw [HBD.out, show commB i1 = true by simpa using h]
              simp
            have HBad := Lib.hid hbad
            clear hbad
            go_wp2_with ((with_reducible refine store_gate 52 ?_); refine wpList_store_mid rfl 52 _ _ rfl w.heap.size 0 updZ.toArray rfl rfl ((HP.out w13 b13).there 0 25 (by decide)) infoUpdateR updZ_one ?_)
            refine bodyPost_ret (results_cells2 rfl _ _ w.heap.size updZ _ rfl (((HP.out w13 b13).sets updZ 0).range) Tryd.underlying52 rfl infoUpdateR) rfl ?_
            exact ⟨.inl ⟨HBad.out, rfl⟩, HB1.out.trans ((b13.mono HB1.out.size).trans (sets_below (Nat.le_refl _) _ _ _))⟩
          | true =>
            cases A2 with
            | false =>
              have hbad : updBad X ce = true := by
                have h := HA2.out
                rw [HBD.out, show tsB i2 = true by simpa using h]
                simp
              have HBad := Lib.hid hbad
              clear hbad
              go_wp2_with ((with_reducible refine store_gate 52 ?_); refine wpList_store_mid rfl 52 _ _ rfl w.heap.size 0 updZ.toArray rfl rfl ((HP.out w13 b13).there 0 25 (by decide)) infoUpdateR updZ_one ?_)
              refine bodyPost_ret (results_cells2 rfl _ _ w.heap.size updZ _ rfl (((HP.out w13 b13).sets updZ 0).range) Tryd.underlying52 rfl infoUpdateR) rfl ?_
              exact ⟨.inl ⟨HBad.out, rfl⟩, HB1.out.trans ((b13.mono HB1.out.size).trans (sets_below (Nat.le_refl _) _ _ _))⟩
            | true =>
              cases A3 with
              | false =>
                have hbad : updBad X ce = true := by
                  have h := HA3.out
                  rw [HBD.out, show lightB i3 = true by simpa using h]
                  simp
                have HBad := Lib.hid hbad
                clear hbad
                go_wp2_with ((with_reducible refine store_gate 52 ?_); refine wpList_store_mid rfl 52 _ _ rfl w.heap.size 0 updZ.toArray rfl rfl ((HP.out w13 b13).there 0 25 (by decide)) infoUpdateR updZ_one ?_)
                refine bodyPost_ret (results_cells2 rfl _ _ w.heap.size updZ _ rfl (((HP.out w13 b13).sets updZ 0).range) Tryd.underlying52 rfl infoUpdateR) rfl ?_
                exact ⟨.inl ⟨HBad.out, rfl⟩, HB1.out.trans ((b13.mono HB1.out.size).trans (sets_below (Nat.le_refl _) _ _ _))⟩
              | true =>
                cases A4 with
                | false =>
                  have hbad : updBad X ce = true := by
                    have h := HA4.out
                    rw [HBD.out, show tsB i4 = true by simpa using h]
                    simp
                  have HBad := Lib.hid hbad
                  clear hbad
                  go_wp2_with ((with_reducible refine store_gate 52 ?_); refine wpList_store_mid rfl 52 _ _ rfl w.heap.size 0 updZ.toArray rfl rfl ((HP.out w13 b13).there 0 25 (by decide)) infoUpdateR updZ_one ?_)
                  refine bodyPost_ret (results_cells2 rfl _ _ w.heap.size updZ _ rfl (((HP.out w13 b13).sets updZ 0).range) Tryd.underlying52 rfl infoUpdateR) rfl ?_
                  exact ⟨.inl ⟨HBad.out, rfl⟩, HB1.out.trans ((b13.mono HB1.out.size).trans (sets_below (Nat.le_refl _) _ _ _))⟩
                | true =>
                  cases A5 with
                  | false =>
                    have hbad : updBad X ce = true := by
                      have h := HA5.out
                      rw [HBD.out, show numB i5 = true by simpa using h]
                      simp
                    have HBad := Lib.hid hbad
                    clear hbad
                    go_wp2_with ((with_reducible refine store_gate 52 ?_); refine wpList_store_mid rfl 52 _ _ rfl w.heap.size 0 updZ.toArray rfl rfl ((HP.out w13 b13).there 0 25 (by decide)) infoUpdateR updZ_one ?_)
                    refine bodyPost_ret (results_cells2 rfl _ _ w.heap.size updZ _ rfl (((HP.out w13 b13).sets updZ 0).range) Tryd.underlying52 rfl infoUpdateR) rfl ?_
                    exact ⟨.inl ⟨HBad.out, rfl⟩, HB1.out.trans ((b13.mono HB1.out.size).trans (sets_below (Nat.le_refl _) _ _ _))⟩
                  | true =>
                    cases A7 with
                    | false =>
                      have hbad : updBad X ce = true := by
                        have h := HA7.out
                        rw [HBD.out, show numB i7 = true by simpa using h]
                        simp
                      have HBad := Lib.hid hbad
                      clear hbad
                      go_wp2_with ((with_reducible refine store_gate 52 ?_); refine wpList_store_mid rfl 52 _ _ rfl w.heap.size 0 updZ.toArray rfl rfl ((HP.out w13 b13).there 0 25 (by decide)) infoUpdateR updZ_one ?_)
                      refine bodyPost_ret (results_cells2 rfl _ _ w.heap.size updZ _ rfl (((HP.out w13 b13).sets updZ 0).range) Tryd.underlying52 rfl infoUpdateR) rfl ?_
                      exact ⟨.inl ⟨HBad.out, rfl⟩, HB1.out.trans ((b13.mono HB1.out.size).trans (sets_below (Nat.le_refl _) _ _ _))⟩
                    | true =>
                      obtain ⟨p0, c0, hcl0, hst0, hov0⟩ := HG0.out (by simpa using HA0.out)
                      have hce0 : cl0 = [.int .u64 (numV (lh i0 0)), .int .u64 (numV (lh i0 1)), .string (txtB (lh i0 2)), .string (txtB (lh i0 3)), .string (txtB (lh i0 4)), .string (txtB (ly i0 0)), .string (txtB (ly i0 1)), .int .u64 (numV (ly i0 2)), .slice p0 (tsL (li i0 2)).length c0] := hcl0
                      subst hce0
                      clear hcl0
                      have fw : Below w5.heap.size w5 w5 := Below.refl _ _
                      replace fw : Below w5.heap.size w5 w6 := fw.trans (HBN1.out.mono fw.size)
                      replace fw : Below w5.heap.size w5 w7 := fw.trans (HBM1.out.mono fw.size)
                      replace fw : Below w5.heap.size w5 w8 := fw.trans (HBM2.out.mono fw.size)
                      replace fw : Below w5.heap.size w5 w9 := fw.trans (HBN3.out.mono fw.size)
                      replace fw : Below w5.heap.size w5 w10 := fw.trans (HBM3.out.mono fw.size)
                      replace fw : Below w5.heap.size w5 w11 := fw.trans (HBM4.out.mono fw.size)
                      replace fw : Below w5.heap.size w5 w12 := fw.trans (HBM5.out.mono fw.size)
                      replace fw : Below w5.heap.size w5 w13 := fw.trans (HBM7.out.mono fw.size)
                      have HQF0 := Lib.hid (show HasCells w13 w4.heap.size [.int .u64 (numV (lh i0 0)), .int .u64 (numV (lh i0 1)), .string (txtB (lh i0 2)), .string (txtB (lh i0 3)), .string (txtB (lh i0 4)), .string (txtB (ly i0 0)), .string (txtB (ly i0 1)), .int .u64 (numV (ly i0 2)), .slice p0 (tsL (li i0 2)).length c0] 37 from (fw.block _ HQ0.out.lt).trans HQ0.out)
                      clear fw
                      have fw : Below w4.heap.size w4 w4 := Below.refl _ _
                      replace fw : Below w4.heap.size w4 w5 := fw.trans (HBM0.out.mono fw.size)
                      replace fw : Below w4.heap.size w4 w6 := fw.trans (HBN1.out.mono fw.size)
                      replace fw : Below w4.heap.size w4 w7 := fw.trans (HBM1.out.mono fw.size)
                      replace fw : Below w4.heap.size w4 w8 := fw.trans (HBM2.out.mono fw.size)
                      replace fw : Below w4.heap.size w4 w9 := fw.trans (HBN3.out.mono fw.size)
                      replace fw : Below w4.heap.size w4 w10 := fw.trans (HBM3.out.mono fw.size)
                      replace fw : Below w4.heap.size w4 w11 := fw.trans (HBM4.out.mono fw.size)
                      replace fw : Below w4.heap.size w4 w12 := fw.trans (HBM5.out.mono fw.size)
                      replace fw : Below w4.heap.size w4 w13 := fw.trans (HBM7.out.mono fw.size)
                      have HS0 := Lib.hid (hst0.below fw)
                      have HO0 := Lib.hid (show ∀ j, (Value.slice p0 (tsL (li i0 2)).length c0).ownBlock = some j → w.heap.size ≠ j from fun j e => by have h1 := hov0 j e; have h2 := HLP.out; omega)
                      clear fw hst0 hov0
                      obtain ⟨p1, c1, hcl1, hst1, hov1⟩ := HG1.out (by simpa using HA1.out)
                      have hce1 : cl1 = [.slice p1 (tsL (ci i1 0)).length c1, .string (txtB (ci i1 1))] := hcl1
                      subst hce1
                      clear hcl1
                      have fw : Below w7.heap.size w7 w7 := Below.refl _ _
                      replace fw : Below w7.heap.size w7 w8 := fw.trans (HBM2.out.mono fw.size)
                      replace fw : Below w7.heap.size w7 w9 := fw.trans (HBN3.out.mono fw.size)
                      replace fw : Below w7.heap.size w7 w10 := fw.trans (HBM3.out.mono fw.size)
                      replace fw : Below w7.heap.size w7 w11 := fw.trans (HBM4.out.mono fw.size)
                      replace fw : Below w7.heap.size w7 w12 := fw.trans (HBM5.out.mono fw.size)
                      replace fw : Below w7.heap.size w7 w13 := fw.trans (HBM7.out.mono fw.size)
                      have HQF1 := Lib.hid (show HasCells w13 w6.heap.size [.slice p1 (tsL (ci i1 0)).length c1, .string (txtB (ci i1 1))] 44 from (fw.block _ HQ1.out.lt).trans HQ1.out)
                      clear fw
                      have fw : Below w6.heap.size w6 w6 := Below.refl _ _
                      replace fw : Below w6.heap.size w6 w7 := fw.trans (HBM1.out.mono fw.size)
                      replace fw : Below w6.heap.size w6 w8 := fw.trans (HBM2.out.mono fw.size)
                      replace fw : Below w6.heap.size w6 w9 := fw.trans (HBN3.out.mono fw.size)
                      replace fw : Below w6.heap.size w6 w10 := fw.trans (HBM3.out.mono fw.size)
                      replace fw : Below w6.heap.size w6 w11 := fw.trans (HBM4.out.mono fw.size)
                      replace fw : Below w6.heap.size w6 w12 := fw.trans (HBM5.out.mono fw.size)
                      replace fw : Below w6.heap.size w6 w13 := fw.trans (HBM7.out.mono fw.size)
                      have HS1 := Lib.hid (hst1.below fw)
                      have HO1 := Lib.hid (show ∀ j, (Value.slice p1 (tsL (ci i1 0)).length c1).ownBlock = some j → w.heap.size ≠ j from fun j e => by have h1 := hov1 j e; have h2 := HLP.out; omega)
                      clear fw hst1 hov1
                      obtain ⟨hnv2, hst2, hov2⟩ := HG2.out (by simpa using HA2.out)
                      subst hnv2
                      have fw : Below w8.heap.size w8 w8 := Below.refl _ _
                      replace fw : Below w8.heap.size w8 w9 := fw.trans (HBN3.out.mono fw.size)
                      replace fw : Below w8.heap.size w8 w10 := fw.trans (HBM3.out.mono fw.size)
                      replace fw : Below w8.heap.size w8 w11 := fw.trans (HBM4.out.mono fw.size)
                      replace fw : Below w8.heap.size w8 w12 := fw.trans (HBM5.out.mono fw.size)
                      replace fw : Below w8.heap.size w8 w13 := fw.trans (HBM7.out.mono fw.size)
                      have HS2 := Lib.hid (hst2.below fw)
                      have HO2 := Lib.hid (show ∀ j, (Value.slice pv2 (tsL i2).length cv2).ownBlock = some j → w.heap.size ≠ j from fun j e => by have h1 := hov2 j e; have h2 := HLP.out; omega)
                      clear fw hst2 hov2
                      obtain ⟨p3, c3, hcl3, hst3, hov3⟩ := HG3.out (by simpa using HA3.out)
                      have hce3 : cl3 = [.int .u64 (numV (lh i3 0)), .int .u64 (numV (lh i3 1)), .string (txtB (lh i3 2)), .string (txtB (lh i3 3)), .string (txtB (lh i3 4)), .string (txtB (ly i3 0)), .string (txtB (ly i3 1)), .int .u64 (numV (ly i3 2)), .slice p3 (tsL (li i3 2)).length c3] := hcl3
                      subst hce3
                      clear hcl3
                      have fw : Below w10.heap.size w10 w10 := Below.refl _ _
                      replace fw : Below w10.heap.size w10 w11 := fw.trans (HBM4.out.mono fw.size)
                      replace fw : Below w10.heap.size w10 w12 := fw.trans (HBM5.out.mono fw.size)
                      replace fw : Below w10.heap.size w10 w13 := fw.trans (HBM7.out.mono fw.size)
                      have HQF3 := Lib.hid (show HasCells w13 w9.heap.size [.int .u64 (numV (lh i3 0)), .int .u64 (numV (lh i3 1)), .string (txtB (lh i3 2)), .string (txtB (lh i3 3)), .string (txtB (lh i3 4)), .string (txtB (ly i3 0)), .string (txtB (ly i3 1)), .int .u64 (numV (ly i3 2)), .slice p3 (tsL (li i3 2)).length c3] 37 from (fw.block _ HQ3.out.lt).trans HQ3.out)
                      clear fw
                      have fw : Below w9.heap.size w9 w9 := Below.refl _ _
                      replace fw : Below w9.heap.size w9 w10 := fw.trans (HBM3.out.mono fw.size)
                      replace fw : Below w9.heap.size w9 w11 := fw.trans (HBM4.out.mono fw.size)
                      replace fw : Below w9.heap.size w9 w12 := fw.trans (HBM5.out.mono fw.size)
                      replace fw : Below w9.heap.size w9 w13 := fw.trans (HBM7.out.mono fw.size)
                      have HS3 := Lib.hid (hst3.below fw)
                      have HO3 := Lib.hid (show ∀ j, (Value.slice p3 (tsL (li i3 2)).length c3).ownBlock = some j → w.heap.size ≠ j from fun j e => by have h1 := hov3 j e; have h2 := HLP.out; omega)
                      clear fw hst3 hov3
                      obtain ⟨hnv4, hst4, hov4⟩ := HG4.out (by simpa using HA4.out)
                      subst hnv4
                      have fw : Below w11.heap.size w11 w11 := Below.refl _ _
                      replace fw : Below w11.heap.size w11 w12 := fw.trans (HBM5.out.mono fw.size)
                      replace fw : Below w11.heap.size w11 w13 := fw.trans (HBM7.out.mono fw.size)
                      have HS4 := Lib.hid (hst4.below fw)
                      have HO4 := Lib.hid (show ∀ j, (Value.slice pv4 (tsL i4).length cv4).ownBlock = some j → w.heap.size ≠ j from fun j e => by have h1 := hov4 j e; have h2 := HLP.out; omega)
                      clear fw hst4 hov4
                      have bfd : Below w1.heap.size w1 w13.drew := b13.trans (Below.refl _ _).drew
                      have hone : ([.int .u64 (numV (lh i0 0)), .int .u64 (numV (lh i0 1)), .string (txtB (lh i0 2)), .string (txtB (lh i0 3)), .string (txtB (lh i0 4)), .string (txtB (ly i0 0)), .string (txtB (ly i0 1)), .int .u64 (numV (ly i0 2)), .slice p0 (tsL (li i0 2)).length c0, .slice p1 (tsL (ci i1 0)).length c1, .string (txtB (ci i1 1)), .slice pv2 (tsL i2).length cv2, .int .u64 (numV (lh i3 0)), .int .u64 (numV (lh i3 1)), .string (txtB (lh i3 2)), .string (txtB (lh i3 3)), .string (txtB (lh i3 4)), .string (txtB (ly i3 0)), .string (txtB (ly i3 1)), .int .u64 (numV (ly i3 2)), .slice p3 (tsL (li i3 2)).length c3, .slice pv4 (tsL i4).length cv4, .int .u64 (numV i5), .string (txtB i6), .int .u64 (numV i7)] : List Value).toArray.all (·.oneCell') = true := all_oneCell_toArray (fun v hv => by
                        simp only [List.mem_cons, List.not_mem_nil, or_false] at hv
                        rcases hv with rfl | rfl | rfl | rfl | rfl | rfl | rfl | rfl | rfl | rfl | rfl | rfl | rfl | rfl | rfl | rfl | rfl | rfl | rfl | rfl | rfl | rfl | rfl | rfl | rfl <;> rfl)
                      have HOne := Lib.hid hone
                      have hfin : HasCells (w13.drew.setCells w.heap.size 0 [.int .u64 (numV (lh i0 0)), .int .u64 (numV (lh i0 1)), .string (txtB (lh i0 2)), .string (txtB (lh i0 3)), .string (txtB (lh i0 4)), .string (txtB (ly i0 0)), .string (txtB (ly i0 1)), .int .u64 (numV (ly i0 2)), .slice p0 (tsL (li i0 2)).length c0, .slice p1 (tsL (ci i1 0)).length c1, .string (txtB (ci i1 1)), .slice pv2 (tsL i2).length cv2, .int .u64 (numV (lh i3 0)), .int .u64 (numV (lh i3 1)), .string (txtB (lh i3 2)), .string (txtB (lh i3 3)), .string (txtB (lh i3 4)), .string (txtB (ly i3 0)), .string (txtB (ly i3 1)), .int .u64 (numV (ly i3 2)), .slice p3 (tsL (li i3 2)).length c3, .slice pv4 (tsL i4).length cv4, .int .u64 (numV i5), .string (txtB i6), .int .u64 (numV i7)]) w.heap.size [.int .u64 (numV (lh i0 0)), .int .u64 (numV (lh i0 1)), .string (txtB (lh i0 2)), .string (txtB (lh i0 3)), .string (txtB (lh i0 4)), .string (txtB (ly i0 0)), .string (txtB (ly i0 1)), .int .u64 (numV (ly i0 2)), .slice p0 (tsL (li i0 2)).length c0, .slice p1 (tsL (ci i1 0)).length c1, .string (txtB (ci i1 1)), .slice pv2 (tsL i2).length cv2, .int .u64 (numV (lh i3 0)), .int .u64 (numV (lh i3 1)), .string (txtB (lh i3 2)), .string (txtB (lh i3 3)), .string (txtB (lh i3 4)), .string (txtB (ly i3 0)), .string (txtB (ly i3 1)), .int .u64 (numV (ly i3 2)), .slice p3 (tsL (li i3 2)).length c3, .slice pv4 (tsL i4).length cv4, .int .u64 (numV i5), .string (txtB i6), .int .u64 (numV i7)] 52 := by
                        have h := (HP.out w13.drew bfd).sets [.int .u64 (numV (lh i0 0)), .int .u64 (numV (lh i0 1)), .string (txtB (lh i0 2)), .string (txtB (lh i0 3)), .string (txtB (lh i0 4)), .string (txtB (ly i0 0)), .string (txtB (ly i0 1)), .int .u64 (numV (ly i0 2)), .slice p0 (tsL (li i0 2)).length c0, .slice p1 (tsL (ci i1 0)).length c1, .string (txtB (ci i1 1)), .slice pv2 (tsL i2).length cv2, .int .u64 (numV (lh i3 0)), .int .u64 (numV (lh i3 1)), .string (txtB (lh i3 2)), .string (txtB (lh i3 3)), .string (txtB (lh i3 4)), .string (txtB (ly i3 0)), .string (txtB (ly i3 1)), .int .u64 (numV (ly i3 2)), .slice p3 (tsL (li i3 2)).length c3, .slice pv4 (tsL i4).length cv4, .int .u64 (numV i5), .string (txtB i6), .int .u64 (numV i7)] 0
                        rwa [spl_full (by rfl)] at h
                      have HFin := Lib.hid hfin
                      have hgood : updBad X ce = false := by
                        rw [HBD.out, show lightB i0 = false by simpa using HA0.out, show commB i1 = false by simpa using HA1.out, show tsB i2 = false by simpa using HA2.out, show lightB i3 = false by simpa using HA3.out, show tsB i4 = false by simpa using HA4.out, show numB i5 = false by simpa using HA5.out, HJB.out, show numB i7 = false by simpa using HA7.out]
                        rfl
                      have HGood := Lib.hid hgood
                      have hbw : Below w.heap.size w (w13.drew.setCells w.heap.size 0 [.int .u64 (numV (lh i0 0)), .int .u64 (numV (lh i0 1)), .string (txtB (lh i0 2)), .string (txtB (lh i0 3)), .string (txtB (lh i0 4)), .string (txtB (ly i0 0)), .string (txtB (ly i0 1)), .int .u64 (numV (ly i0 2)), .slice p0 (tsL (li i0 2)).length c0, .slice p1 (tsL (ci i1 0)).length c1, .string (txtB (ci i1 1)), .slice pv2 (tsL i2).length cv2, .int .u64 (numV (lh i3 0)), .int .u64 (numV (lh i3 1)), .string (txtB (lh i3 2)), .string (txtB (lh i3 3)), .string (txtB (lh i3 4)), .string (txtB (ly i3 0)), .string (txtB (ly i3 1)), .int .u64 (numV (ly i3 2)), .slice p3 (tsL (li i3 2)).length c3, .slice pv4 (tsL i4).length cv4, .int .u64 (numV i5), .string (txtB i6), .int .u64 (numV i7)]) := HB1.out.trans ((bfd.mono HB1.out.size).trans (sets_below (Nat.le_refl _) _ _ _))
                      have HBW := Lib.hid hbw
                      have hth : w13.drew.there w.heap.size 0 ([.int .u64 (numV (lh i0 0)), .int .u64 (numV (lh i0 1)), .string (txtB (lh i0 2)), .string (txtB (lh i0 3)), .string (txtB (lh i0 4)), .string (txtB (ly i0 0)), .string (txtB (ly i0 1)), .int .u64 (numV (ly i0 2)), .slice p0 (tsL (li i0 2)).length c0, .slice p1 (tsL (ci i1 0)).length c1, .string (txtB (ci i1 1)), .slice pv2 (tsL i2).length cv2, .int .u64 (numV (lh i3 0)), .int .u64 (numV (lh i3 1)), .string (txtB (lh i3 2)), .string (txtB (lh i3 3)), .string (txtB (lh i3 4)), .string (txtB (ly i3 0)), .string (txtB (ly i3 1)), .int .u64 (numV (ly i3 2)), .slice p3 (tsL (li i3 2)).length c3, .slice pv4 (tsL i4).length cv4, .int .u64 (numV i5), .string (txtB i6), .int .u64 (numV i7)] : List Value).toArray.size := (HP.out w13.drew bfd).there 0 25 (by decide)
                      have HTH := Lib.hid hth
                      clear hone hfin hgood hbw hth
                      have hSS : HasCells w13.drew w4.heap.size [.int .u64 (numV (lh i0 0)), .int .u64 (numV (lh i0 1)), .string (txtB (lh i0 2)), .string (txtB (lh i0 3)), .string (txtB (lh i0 4)), .string (txtB (ly i0 0)), .string (txtB (ly i0 1)), .int .u64 (numV (ly i0 2)), .slice p0 (tsL (li i0 2)).length c0] 37 ∧ HasCells w13.drew w6.heap.size [.slice p1 (tsL (ci i1 0)).length c1, .string (txtB (ci i1 1))] 44 ∧ HasCells w13.drew w9.heap.size [.int .u64 (numV (lh i3 0)), .int .u64 (numV (lh i3 1)), .string (txtB (lh i3 2)), .string (txtB (lh i3 3)), .string (txtB (lh i3 4)), .string (txtB (ly i3 0)), .string (txtB (ly i3 1)), .int .u64 (numV (ly i3 2)), .slice p3 (tsL (li i3 2)).length c3] 37 ∧ w13.drew.cell? ⟨w1.heap.size, 2, none⟩ = some (.slice (some ⟨gx, ox, none⟩) 8 c) ∧ w13.drew.cell? ⟨gx, ox + 19, none⟩ = some (.string (txtB i6)) := ⟨HQF0.out.drew, HQF1.out.drew, HQF3.out.drew, (HXX.out w13 d13).2.2, (Fi6.out w13 b13).2.1⟩
                      have HSS := Lib.hid hSS
                      clear hSS
                      have hgx : gx ≠ w.heap.size := by
                        have h := World.block_lt_of_cell? w1 ⟨gx, ox, none⟩ (Fi0.out w1 (Below.refl _ _)).1
                        intro e
                        have h2 := HP.out w1 (Below.refl _ _)
                        have h3 := (Fi0.out w1 (Below.refl _ _)).1
                        rw [e, World.cell?, show w1.heap[w.heap.size]? = _ from h2] at h3
                        simp only [List.getElem?_toArray] at h3
                        have h4 := List.mem_of_getElem? h3
                        simp [updZ] at h4
                      have HGX := Lib.hid hgx
                      clear hgx
                      have HN0q := Lib.hid (show w4.heap.size ≠ w.heap.size from fun e => by
                        have h := HQF0.out
                        rw [e] at h
                        have h2 := HP.out w13 b13
                        have h3 := Option.some.inj ((show w13.heap[w.heap.size]? = _ from h).symm.trans h2)
                        simp at h3)
                      have HN1q := Lib.hid (show w6.heap.size ≠ w.heap.size from fun e => by
                        have h := HQF1.out
                        rw [e] at h
                        have h2 := HP.out w13 b13
                        have h3 := Option.some.inj ((show w13.heap[w.heap.size]? = _ from h).symm.trans h2)
                        simp at h3)
                      have HN3q := Lib.hid (show w9.heap.size ≠ w.heap.size from fun e => by
                        have h := HQF3.out
                        rw [e] at h
                        have h2 := HP.out w13 b13
                        have h3 := Option.some.inj ((show w13.heap[w.heap.size]? = _ from h).symm.trans h2)
                        simp at h3)
                      go_wp2_with fail
                      refine wp_region_held_drew (S := fun W => HasCells W w4.heap.size [.int .u64 (numV (lh i0 0)), .int .u64 (numV (lh i0 1)), .string (txtB (lh i0 2)), .string (txtB (lh i0 3)), .string (txtB (lh i0 4)), .string (txtB (ly i0 0)), .string (txtB (ly i0 1)), .int .u64 (numV (ly i0 2)), .slice p0 (tsL (li i0 2)).length c0] 37 ∧ HasCells W w6.heap.size [.slice p1 (tsL (ci i1 0)).length c1, .string (txtB (ci i1 1))] 44 ∧ HasCells W w9.heap.size [.int .u64 (numV (lh i3 0)), .int .u64 (numV (lh i3 1)), .string (txtB (lh i3 2)), .string (txtB (lh i3 3)), .string (txtB (lh i3 4)), .string (txtB (ly i3 0)), .string (txtB (ly i3 1)), .int .u64 (numV (ly i3 2)), .slice p3 (tsL (li i3 2)).length c3] 37 ∧ W.cell? ⟨w1.heap.size, 2, none⟩ = some (.slice (some ⟨gx, ox, none⟩) 8 c) ∧ W.cell? ⟨gx, ox + 19, none⟩ = some (.string (txtB i6))) (by kernel_rfl) (HSS.out) (fun hHeld => ?_)
                      refine wpAnyH_take (i := 0) (v := ?_) rfl (by kernel_rfl) (by kernel_rfl) (by kernel_rfl) (fun _ _ _ h => h) (.inl ⟨by rfl, ?_⟩) (by assumption) ?_
                      rotate_left 1
                      · intro w0 hSw
                        obtain ⟨z, -, -, -, -⟩ := hSw
                        have c0 := z.cell (j := 0) rfl
                        have c1 := z.cell (j := 1) rfl
                        have c2 := z.cell (j := 2) rfl
                        have c3 := z.cell (j := 3) rfl
                        have c4 := z.cell (j := 4) rfl
                        have c5 := z.cell (j := 5) rfl
                        have c6 := z.cell (j := 6) rfl
                        have c7 := z.cell (j := 7) rfl
                        have c8 := z.cell (j := 8) rfl
                        go_simp <;> with_reducible rfl
                      try simp only [Act.put, List.getElem_toArray, List.getElem_cons_zero, List.setIfInBounds_toArray, List.set_cons_zero, List.set_cons_succ]
                      refine wpAnyH_take (i := 1) (v := ?_) rfl (by kernel_rfl) (by kernel_rfl) (by kernel_rfl) (fun _ _ _ h => h) (.inl ⟨by rfl, ?_⟩) (by assumption) ?_
                      rotate_left 1
                      · intro w0 hSw
                        obtain ⟨-, z, -, -, -⟩ := hSw
                        have c0 := z.cell (j := 0) rfl
                        have c1 := z.cell (j := 1) rfl
                        go_simp <;> with_reducible rfl
                      try simp only [Act.put, List.getElem_toArray, List.getElem_cons_zero, List.getElem_cons_succ, List.setIfInBounds_toArray, List.set_cons_zero, List.set_cons_succ]
                      refine wpAnyH_take (i := 2) (v := ?_) rfl (by kernel_rfl) (by kernel_rfl) (by kernel_rfl) (fun _ _ _ h => h) (.inl ⟨by rfl, ?_⟩) (by assumption) ?_
                      rotate_left 1
                      · intro w0 hSw
                        go_simp <;> with_reducible rfl
                      try simp only [Act.put, List.getElem_toArray, List.getElem_cons_zero, List.getElem_cons_succ, List.setIfInBounds_toArray, List.set_cons_zero, List.set_cons_succ]
                      refine wpAnyH_take (i := 3) (v := ?_) rfl (by kernel_rfl) (by kernel_rfl) (by kernel_rfl) (fun _ _ _ h => h) (.inl ⟨by rfl, ?_⟩) (by assumption) ?_
                      rotate_left 1
                      · intro w0 hSw
                        obtain ⟨-, -, z, -, -⟩ := hSw
                        have c0 := z.cell (j := 0) rfl
                        have c1 := z.cell (j := 1) rfl
                        have c2 := z.cell (j := 2) rfl
                        have c3 := z.cell (j := 3) rfl
                        have c4 := z.cell (j := 4) rfl
                        have c5 := z.cell (j := 5) rfl
                        have c6 := z.cell (j := 6) rfl
                        have c7 := z.cell (j := 7) rfl
                        have c8 := z.cell (j := 8) rfl
                        go_simp <;> with_reducible rfl
                      try simp only [Act.put, List.getElem_toArray, List.getElem_cons_zero, List.getElem_cons_succ, List.setIfInBounds_toArray, List.set_cons_zero, List.set_cons_succ]
                      refine wpAnyH_take (i := 4) (v := ?_) rfl (by kernel_rfl) (by kernel_rfl) (by kernel_rfl) (fun _ _ _ h => h) (.inl ⟨by rfl, ?_⟩) (by assumption) ?_
                      rotate_left 1
                      · intro w0 hSw
                        go_simp <;> with_reducible rfl
                      try simp only [Act.put, List.getElem_toArray, List.getElem_cons_zero, List.getElem_cons_succ, List.setIfInBounds_toArray, List.set_cons_zero, List.set_cons_succ]
                      refine wpAnyH_take (i := 5) (v := ?_) rfl (by kernel_rfl) (by kernel_rfl) (by kernel_rfl) (fun _ _ _ h => h) (.inl ⟨by rfl, ?_⟩) (by assumption) ?_
                      rotate_left 1
                      · intro w0 hSw
                        go_simp <;> with_reducible rfl
                      try simp only [Act.put, List.getElem_toArray, List.getElem_cons_zero, List.getElem_cons_succ, List.setIfInBounds_toArray, List.set_cons_zero, List.set_cons_succ]
                      refine wpAnyH_take (i := 6) (v := ?_) rfl (by kernel_rfl) (by kernel_rfl) (by kernel_rfl) (fun _ _ _ h => h) (.inl ⟨by rfl, ?_⟩) (by assumption) ?_
                      rotate_left 1
                      · intro w0 hSw
                        go_simp <;> with_reducible rfl
                      try simp only [Act.put, List.getElem_toArray, List.getElem_cons_zero, List.getElem_cons_succ, List.setIfInBounds_toArray, List.set_cons_zero, List.set_cons_succ]
                      refine wpAnyH_take (i := 7) (v := ?_) rfl (by kernel_rfl) (by kernel_rfl) (by kernel_rfl) (fun _ _ _ h => h) (.inl ⟨by rfl, ?_⟩) (by assumption) ?_
                      rotate_left 1
                      · intro w0 hSw
                        obtain ⟨-, -, -, z, -⟩ := hSw
                        go_simp <;> with_reducible rfl
                      try simp only [Act.put, List.getElem_toArray, List.getElem_cons_zero, List.getElem_cons_succ, List.setIfInBounds_toArray, List.set_cons_zero, List.set_cons_succ]
                      refine wpAnyH_take (i := 8) (v := ?_) rfl (by kernel_rfl) (by kernel_rfl) (by kernel_rfl) (fun _ _ _ h => h) (.inl ⟨by rfl, ?_⟩) (by assumption) ?_
                      rotate_left 1
                      · intro w0 hSw
                        go_simp <;> with_reducible rfl
                      try simp only [Act.put, List.getElem_toArray, List.getElem_cons_zero, List.getElem_cons_succ, List.setIfInBounds_toArray, List.set_cons_zero, List.set_cons_succ]
                      refine wpAnyH_take (i := 9) (v := ?_) rfl (by kernel_rfl) (by kernel_rfl) (by kernel_rfl) (fun _ _ _ h => h) (.inl ⟨by rfl, ?_⟩) (by assumption) ?_
                      rotate_left 1
                      · intro w0 hSw
                        go_simp <;> with_reducible rfl
                      try simp only [Act.put, List.getElem_toArray, List.getElem_cons_zero, List.getElem_cons_succ, List.setIfInBounds_toArray, List.set_cons_zero, List.set_cons_succ]
                      refine wpAnyH_take (i := 10) (v := ?_) rfl (by kernel_rfl) (by kernel_rfl) (by kernel_rfl) (fun _ _ _ h => h) (.inl ⟨by rfl, ?_⟩) (by assumption) ?_
                      rotate_left 1
                      · intro w0 hSw
                        obtain ⟨-, -, -, -, z⟩ := hSw
                        go_simp <;> with_reducible rfl
                      try simp only [Act.put, List.getElem_toArray, List.getElem_cons_zero, List.getElem_cons_succ, List.setIfInBounds_toArray, List.set_cons_zero, List.set_cons_succ]
                      refine wpAnyH_take (i := 11) (v := ?_) rfl (by kernel_rfl) (by kernel_rfl) (by kernel_rfl) (fun _ _ _ h => h) (.inl ⟨by rfl, ?_⟩) (by assumption) ?_
                      rotate_left 1
                      · intro w0 hSw
                        go_simp <;> with_reducible rfl
                      try simp only [Act.put, List.getElem_toArray, List.getElem_cons_zero, List.getElem_cons_succ, List.setIfInBounds_toArray, List.set_cons_zero, List.set_cons_succ]
                      refine wpAnyH_take (i := 12) (v := ?_) rfl (by kernel_rfl) (by kernel_rfl) (by kernel_rfl) (fun _ _ _ h => h) (.inl ⟨by rfl, ?_⟩) (by assumption) ?_
                      rotate_left 1
                      · intro w0 hSw
                        go_simp <;> with_reducible rfl
                      try simp only [Act.put, List.getElem_toArray, List.getElem_cons_zero, List.getElem_cons_succ, List.setIfInBounds_toArray, List.set_cons_zero, List.set_cons_succ]
                      refine wpAnyH_ready (rs := [13]) (by kernel_rfl) (by simp) ?_
                      refine AllReadyH.cons rfl (fun K hK => ?_) AllReadyH.nil
                      refine step_store_mid (by rfl) 52 _ _ rfl w.heap.size 0 ([.int .u64 (numV (lh i0 0)), .int .u64 (numV (lh i0 1)), .string (txtB (lh i0 2)), .string (txtB (lh i0 3)), .string (txtB (lh i0 4)), .string (txtB (ly i0 0)), .string (txtB (ly i0 1)), .int .u64 (numV (ly i0 2)), .slice p0 (tsL (li i0 2)).length c0, .slice p1 (tsL (ci i1 0)).length c1, .string (txtB (ci i1 1)), .slice pv2 (tsL i2).length cv2, .int .u64 (numV (lh i3 0)), .int .u64 (numV (lh i3 1)), .string (txtB (lh i3 2)), .string (txtB (lh i3 3)), .string (txtB (lh i3 4)), .string (txtB (ly i3 0)), .string (txtB (ly i3 1)), .int .u64 (numV (ly i3 2)), .slice p3 (tsL (li i3 2)).length c3, .slice pv4 (tsL i4).length cv4, .int .u64 (numV i5), .string (txtB i6), .int .u64 (numV i7)] : List Value).toArray rfl rfl HTH.out infoUpdateR HOne.out ?_
                      refine hK.out _ _ (⟨hHeld.1.upon (Upon.sets w.heap.size ([.int .u64 (numV (lh i0 0)), .int .u64 (numV (lh i0 1)), .string (txtB (lh i0 2)), .string (txtB (lh i0 3)), .string (txtB (lh i0 4)), .string (txtB (ly i0 0)), .string (txtB (ly i0 1)), .int .u64 (numV (ly i0 2)), .slice p0 (tsL (li i0 2)).length c0, .slice p1 (tsL (ci i1 0)).length c1, .string (txtB (ci i1 1)), .slice pv2 (tsL i2).length cv2, .int .u64 (numV (lh i3 0)), .int .u64 (numV (lh i3 1)), .string (txtB (lh i3 2)), .string (txtB (lh i3 3)), .string (txtB (lh i3 4)), .string (txtB (ly i3 0)), .string (txtB (ly i3 1)), .int .u64 (numV (ly i3 2)), .slice p3 (tsL (li i3 2)).length c3, .slice pv4 (tsL i4).length cv4, .int .u64 (numV i5), .string (txtB i6), .int .u64 (numV i7)]) 0 w13.drew) HN0q.out, hHeld.2.1.upon (Upon.sets w.heap.size ([.int .u64 (numV (lh i0 0)), .int .u64 (numV (lh i0 1)), .string (txtB (lh i0 2)), .string (txtB (lh i0 3)), .string (txtB (lh i0 4)), .string (txtB (ly i0 0)), .string (txtB (ly i0 1)), .int .u64 (numV (ly i0 2)), .slice p0 (tsL (li i0 2)).length c0, .slice p1 (tsL (ci i1 0)).length c1, .string (txtB (ci i1 1)), .slice pv2 (tsL i2).length cv2, .int .u64 (numV (lh i3 0)), .int .u64 (numV (lh i3 1)), .string (txtB (lh i3 2)), .string (txtB (lh i3 3)), .string (txtB (lh i3 4)), .string (txtB (ly i3 0)), .string (txtB (ly i3 1)), .int .u64 (numV (ly i3 2)), .slice p3 (tsL (li i3 2)).length c3, .slice pv4 (tsL i4).length cv4, .int .u64 (numV i5), .string (txtB i6), .int .u64 (numV i7)]) 0 w13.drew) HN1q.out, hHeld.2.2.1.upon (Upon.sets w.heap.size ([.int .u64 (numV (lh i0 0)), .int .u64 (numV (lh i0 1)), .string (txtB (lh i0 2)), .string (txtB (lh i0 3)), .string (txtB (lh i0 4)), .string (txtB (ly i0 0)), .string (txtB (ly i0 1)), .int .u64 (numV (ly i0 2)), .slice p0 (tsL (li i0 2)).length c0, .slice p1 (tsL (ci i1 0)).length c1, .string (txtB (ci i1 1)), .slice pv2 (tsL i2).length cv2, .int .u64 (numV (lh i3 0)), .int .u64 (numV (lh i3 1)), .string (txtB (lh i3 2)), .string (txtB (lh i3 3)), .string (txtB (lh i3 4)), .string (txtB (ly i3 0)), .string (txtB (ly i3 1)), .int .u64 (numV (ly i3 2)), .slice p3 (tsL (li i3 2)).length c3, .slice pv4 (tsL i4).length cv4, .int .u64 (numV i5), .string (txtB i6), .int .u64 (numV i7)]) 0 w13.drew) HN3q.out, (World.cell?_of_block (a := ⟨w1.heap.size, 2, none⟩) ((Upon.sets w.heap.size ([.int .u64 (numV (lh i0 0)), .int .u64 (numV (lh i0 1)), .string (txtB (lh i0 2)), .string (txtB (lh i0 3)), .string (txtB (lh i0 4)), .string (txtB (ly i0 0)), .string (txtB (ly i0 1)), .int .u64 (numV (ly i0 2)), .slice p0 (tsL (li i0 2)).length c0, .slice p1 (tsL (ci i1 0)).length c1, .string (txtB (ci i1 1)), .slice pv2 (tsL i2).length cv2, .int .u64 (numV (lh i3 0)), .int .u64 (numV (lh i3 1)), .string (txtB (lh i3 2)), .string (txtB (lh i3 3)), .string (txtB (lh i3 4)), .string (txtB (ly i3 0)), .string (txtB (ly i3 1)), .int .u64 (numV (ly i3 2)), .slice p3 (tsL (li i3 2)).length c3, .slice pv4 (tsL i4).length cv4, .int .u64 (numV i5), .string (txtB i6), .int .u64 (numV i7)]) 0 w13.drew).block _ (show w1.heap.size ≠ w.heap.size by have := HLP.out; omega))).trans hHeld.2.2.2.1, (World.cell?_of_block (a := ⟨gx, ox + 19, none⟩) ((Upon.sets w.heap.size ([.int .u64 (numV (lh i0 0)), .int .u64 (numV (lh i0 1)), .string (txtB (lh i0 2)), .string (txtB (lh i0 3)), .string (txtB (lh i0 4)), .string (txtB (ly i0 0)), .string (txtB (ly i0 1)), .int .u64 (numV (ly i0 2)), .slice p0 (tsL (li i0 2)).length c0, .slice p1 (tsL (ci i1 0)).length c1, .string (txtB (ci i1 1)), .slice pv2 (tsL i2).length cv2, .int .u64 (numV (lh i3 0)), .int .u64 (numV (lh i3 1)), .string (txtB (lh i3 2)), .string (txtB (lh i3 3)), .string (txtB (lh i3 4)), .string (txtB (ly i3 0)), .string (txtB (ly i3 1)), .int .u64 (numV (ly i3 2)), .slice p3 (tsL (li i3 2)).length c3, .slice pv4 (tsL i4).length cv4, .int .u64 (numV i5), .string (txtB i6), .int .u64 (numV i7)]) 0 w13.drew).block _ HGX.out)).trans hHeld.2.2.2.2⟩) (fun hHeld => ?_)
                      clear hK K
                      simp only [Act.put, List.getElem_toArray, List.getElem_cons_zero, List.getElem_cons_succ]
                      refine wpAnyH_take (i := 14) (v := ?_) rfl (by kernel_rfl) (by kernel_rfl) (by kernel_rfl) (fun _ _ _ h => h) (.inl ⟨by rfl, ?_⟩) (by assumption) ?_
                      rotate_left 1
                      · intro w0 hSw
                        go_simp <;> with_reducible rfl
                      try simp only [Act.put, List.getElem_toArray, List.getElem_cons_zero, List.getElem_cons_succ, List.setIfInBounds_toArray, List.set_cons_zero, List.set_cons_succ]
                      refine wpAnyH_done (by kernel_rfl) ?_ 0
                      go_wp2_with fail
                      refine bodyPost_ret (results_cells2 rfl _ (w13.drew.setCells w.heap.size 0 [.int .u64 (numV (lh i0 0)), .int .u64 (numV (lh i0 1)), .string (txtB (lh i0 2)), .string (txtB (lh i0 3)), .string (txtB (lh i0 4)), .string (txtB (ly i0 0)), .string (txtB (ly i0 1)), .int .u64 (numV (ly i0 2)), .slice p0 (tsL (li i0 2)).length c0, .slice p1 (tsL (ci i1 0)).length c1, .string (txtB (ci i1 1)), .slice pv2 (tsL i2).length cv2, .int .u64 (numV (lh i3 0)), .int .u64 (numV (lh i3 1)), .string (txtB (lh i3 2)), .string (txtB (lh i3 3)), .string (txtB (lh i3 4)), .string (txtB (ly i3 0)), .string (txtB (ly i3 1)), .int .u64 (numV (ly i3 2)), .slice p3 (tsL (li i3 2)).length c3, .slice pv4 (tsL i4).length cv4, .int .u64 (numV i5), .string (txtB i6), .int .u64 (numV i7)]) w.heap.size [.int .u64 (numV (lh i0 0)), .int .u64 (numV (lh i0 1)), .string (txtB (lh i0 2)), .string (txtB (lh i0 3)), .string (txtB (lh i0 4)), .string (txtB (ly i0 0)), .string (txtB (ly i0 1)), .int .u64 (numV (ly i0 2)), .slice p0 (tsL (li i0 2)).length c0, .slice p1 (tsL (ci i1 0)).length c1, .string (txtB (ci i1 1)), .slice pv2 (tsL i2).length cv2, .int .u64 (numV (lh i3 0)), .int .u64 (numV (lh i3 1)), .string (txtB (lh i3 2)), .string (txtB (lh i3 3)), .string (txtB (lh i3 4)), .string (txtB (ly i3 0)), .string (txtB (ly i3 1)), .int .u64 (numV (ly i3 2)), .slice p3 (tsL (li i3 2)).length c3, .slice pv4 (tsL i4).length cv4, .int .u64 (numV i5), .string (txtB i6), .int .u64 (numV i7)] _ rfl HFin.out.range Tryd.underlying52 rfl infoUpdateR) rfl ?_
                      rw [HI0.out, HI1.out, HI2.out, HI3.out, HI4.out]
                      refine ⟨.inr ⟨HGood.out, p0, p1, pv2, p3, pv4, c0, c1, cv2, c3, cv4, ?_, (HS0.out.below (Below.refl _ _).drew).upon (Upon.sets w.heap.size [.int .u64 (numV (lh i0 0)), .int .u64 (numV (lh i0 1)), .string (txtB (lh i0 2)), .string (txtB (lh i0 3)), .string (txtB (lh i0 4)), .string (txtB (ly i0 0)), .string (txtB (ly i0 1)), .int .u64 (numV (ly i0 2)), .slice p0 (tsL (li i0 2)).length c0, .slice p1 (tsL (ci i1 0)).length c1, .string (txtB (ci i1 1)), .slice pv2 (tsL i2).length cv2, .int .u64 (numV (lh i3 0)), .int .u64 (numV (lh i3 1)), .string (txtB (lh i3 2)), .string (txtB (lh i3 3)), .string (txtB (lh i3 4)), .string (txtB (ly i3 0)), .string (txtB (ly i3 1)), .int .u64 (numV (ly i3 2)), .slice p3 (tsL (li i3 2)).length c3, .slice pv4 (tsL i4).length cv4, .int .u64 (numV i5), .string (txtB i6), .int .u64 (numV i7)] 0 w13.drew) (fun e => HO0.out _ e rfl), (HS1.out.below (Below.refl _ _).drew).upon (Upon.sets w.heap.size [.int .u64 (numV (lh i0 0)), .int .u64 (numV (lh i0 1)), .string (txtB (lh i0 2)), .string (txtB (lh i0 3)), .string (txtB (lh i0 4)), .string (txtB (ly i0 0)), .string (txtB (ly i0 1)), .int .u64 (numV (ly i0 2)), .slice p0 (tsL (li i0 2)).length c0, .slice p1 (tsL (ci i1 0)).length c1, .string (txtB (ci i1 1)), .slice pv2 (tsL i2).length cv2, .int .u64 (numV (lh i3 0)), .int .u64 (numV (lh i3 1)), .string (txtB (lh i3 2)), .string (txtB (lh i3 3)), .string (txtB (lh i3 4)), .string (txtB (ly i3 0)), .string (txtB (ly i3 1)), .int .u64 (numV (ly i3 2)), .slice p3 (tsL (li i3 2)).length c3, .slice pv4 (tsL i4).length cv4, .int .u64 (numV i5), .string (txtB i6), .int .u64 (numV i7)] 0 w13.drew) (fun e => HO1.out _ e rfl), (HS2.out.below (Below.refl _ _).drew).upon (Upon.sets w.heap.size [.int .u64 (numV (lh i0 0)), .int .u64 (numV (lh i0 1)), .string (txtB (lh i0 2)), .string (txtB (lh i0 3)), .string (txtB (lh i0 4)), .string (txtB (ly i0 0)), .string (txtB (ly i0 1)), .int .u64 (numV (ly i0 2)), .slice p0 (tsL (li i0 2)).length c0, .slice p1 (tsL (ci i1 0)).length c1, .string (txtB (ci i1 1)), .slice pv2 (tsL i2).length cv2, .int .u64 (numV (lh i3 0)), .int .u64 (numV (lh i3 1)), .string (txtB (lh i3 2)), .string (txtB (lh i3 3)), .string (txtB (lh i3 4)), .string (txtB (ly i3 0)), .string (txtB (ly i3 1)), .int .u64 (numV (ly i3 2)), .slice p3 (tsL (li i3 2)).length c3, .slice pv4 (tsL i4).length cv4, .int .u64 (numV i5), .string (txtB i6), .int .u64 (numV i7)] 0 w13.drew) (fun e => HO2.out _ e rfl), (HS3.out.below (Below.refl _ _).drew).upon (Upon.sets w.heap.size [.int .u64 (numV (lh i0 0)), .int .u64 (numV (lh i0 1)), .string (txtB (lh i0 2)), .string (txtB (lh i0 3)), .string (txtB (lh i0 4)), .string (txtB (ly i0 0)), .string (txtB (ly i0 1)), .int .u64 (numV (ly i0 2)), .slice p0 (tsL (li i0 2)).length c0, .slice p1 (tsL (ci i1 0)).length c1, .string (txtB (ci i1 1)), .slice pv2 (tsL i2).length cv2, .int .u64 (numV (lh i3 0)), .int .u64 (numV (lh i3 1)), .string (txtB (lh i3 2)), .string (txtB (lh i3 3)), .string (txtB (lh i3 4)), .string (txtB (ly i3 0)), .string (txtB (ly i3 1)), .int .u64 (numV (ly i3 2)), .slice p3 (tsL (li i3 2)).length c3, .slice pv4 (tsL i4).length cv4, .int .u64 (numV i5), .string (txtB i6), .int .u64 (numV i7)] 0 w13.drew) (fun e => HO3.out _ e rfl), (HS4.out.below (Below.refl _ _).drew).upon (Upon.sets w.heap.size [.int .u64 (numV (lh i0 0)), .int .u64 (numV (lh i0 1)), .string (txtB (lh i0 2)), .string (txtB (lh i0 3)), .string (txtB (lh i0 4)), .string (txtB (ly i0 0)), .string (txtB (ly i0 1)), .int .u64 (numV (ly i0 2)), .slice p0 (tsL (li i0 2)).length c0, .slice p1 (tsL (ci i1 0)).length c1, .string (txtB (ci i1 1)), .slice pv2 (tsL i2).length cv2, .int .u64 (numV (lh i3 0)), .int .u64 (numV (lh i3 1)), .string (txtB (lh i3 2)), .string (txtB (lh i3 3)), .string (txtB (lh i3 4)), .string (txtB (ly i3 0)), .string (txtB (ly i3 1)), .int .u64 (numV (ly i3 2)), .slice p3 (tsL (li i3 2)).length c3, .slice pv4 (tsL i4).length cv4, .int .u64 (numV i5), .string (txtB i6), .int .u64 (numV i7)] 0 w13.drew) (fun e => HO4.out _ e rfl)⟩, HBW.out⟩
                      rw [HCs.out]
                      rfl
end Go.Proofs.YtfbopnebfdkhdaaDoor
