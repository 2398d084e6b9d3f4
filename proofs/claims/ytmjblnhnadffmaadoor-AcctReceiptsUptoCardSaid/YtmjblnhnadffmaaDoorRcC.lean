/- Contracts of the reference's logs and ReceiptBytes. -/
import Derived.Test.YtmjblnhnadffmaaDoorRcB
namespace Go.Proofs.YtmjblnhnadffmaaDoor
open Go.RowKit Go.Shelf Go.Lib
attribute [local go_sem] Oper.semAt_some

theorem rightLog_lit (l : LogD) (b : Bool) (hb : rightLog l = b) (p : Option Addr) (m c : Nat) (hm : l.tops.length = m) (w : World) (hv : Strs w (.slice p m c) l.tops) (hN : m ≤ 1099511627775) :
    Calls Tryd.prog 63 #[.agg #[.string l.addr, .slice p m c, .string l.data]] w fun e w' => e = .returned (.bool b) ∧ Below w.heap.size w w' := by
  subst hb; subst hm
  exact rightLog_any l p c w hv hN
theorem infoItemC : (Tryd.prog.info? 51).map (·.size) = some 3 := by kernel_rfl
def itemZ : List Value := [.bool false, .string ⟨#[]⟩, .slice none 0 0]
set_option maxRecDepth 100000 in
set_option maxHeartbeats 12800000 in
theorem logsRef_any (ls : List LogD) (p : Option Addr) (c : Nat) (w : World) (hv : Logs w (.slice p ls.length c) ls) (hw : weightL ls ≤ 1048576) :
    Calls Tryd.prog 38 #[.slice p ls.length c] w fun e w' => (∃ b q m cc, e = .returned (.tuple #[.agg #[.bool b, .string ⟨#[]⟩, .slice q m cc], .bool (rcptRight ls)]) ∧ (rcptRight ls = true → b = true ∧ RIn w' w.heap.size (.slice q m cc) (ls.map logItem))) ∧ Below w.heap.size w w' := by
  have hlw := len_weightL ls
  have HTW := Lib.hid (fun x h => mem_weightL (ls := ls) (x := x) h)
  have HLS := Lib.hid (logs_split ls)
  obtain ⟨rr, hrr⟩ : ∃ b, rcptRight ls = b := ⟨_, rfl⟩
  rw [hrr]
  have HRR := Lib.hid hrr
  obtain ⟨n, hn⟩ : ∃ n, ls.length = n := ⟨_, rfl⟩
  rw [hn] at hv hlw ⊢
  have HV := Lib.hid hv
  have HN := Lib.hid hn
  have HW := Lib.hid hw
  have HB0 := Lib.hid (laid1 w (.cells itemZ.toArray 51))
  have hnl : n ≤ 1048576 := by omega
  clear hrr hv hn hw hlw
  go_enter Tryd.func38, Tryd.ntmps38
  go_wp2_with fail
  obtain ⟨w0, hw0⟩ : ∃ W, w.alloc (.cells itemZ.toArray 51) = W := ⟨_, rfl⟩
  have HZ := Lib.hid (show HasCells w0 w.heap.size itemZ 51 from by rw [← hw0]; exact HasCells.new _ _ _)
  have hz0 : w.heap.size + 1 ≤ w0.heap.size := by rw [← hw0]; simp
  rw [hw0] at HB0
  rw [show w.alloc (.cells #[.bool false, .string ⟨#[]⟩, .slice none 0 0] 51) = w0 from hw0]
  clear hw0
  go_loopw [3, 4, 5] (fun r3 v i wr => r3 = .bool false ∧ ∃ (k : Nat) (L : List (Item × Value)), k ≤ n ∧ i = .int .i64 k ∧ Aside (∀ j y, j < k → ls[j]? = some y → rightLog y = true) ∧ Aside (L.map Prod.fst = (ls.take k).map logItem) ∧ Aside (RowI w0.heap.size wr v L) ∧ Aside (Below w0.heap.size w0 wr)) (fun _ _ i _ => n - (RowKit.intOf i).toNat)
  case atStart => exact ⟨rfl, 0, [], Nat.zero_le _, rfl, fun j y h => by omega, rfl, RowI.nil _ _, Below.refl _ _⟩
  case round =>
    obtain ⟨rfl, k, L, hk, rfl, HF, HL, HO, HB⟩ := hrel
    have hll : L.length = k := by
      have := congrArg List.length HL.out
      rw [List.length_map, List.length_map, List.length_take, HN.out] at this
      omega
    obtain ⟨pv, cv, rfl⟩ := HO.out.form
    rw [hll] at HO ⊢
    have HLL := Lib.hid hll
    have g1 : (0 : Int) ≤ k := by omega
    by_cases hlt : k < n
    · obtain ⟨x, hx⟩ : ∃ x, ls[k]? = some x := ⟨_, List.getElem?_eq_getElem (by rw [HN.out]; exact hlt)⟩
      obtain ⟨-, bk, o, rfl, hbk, hat⟩ := Logs.at HV.out (by omega)
      have hbw : Below w.heap.size w wr := HB0.out.trans (HB.out.mono (by omega))
      obtain ⟨u, a0, a1, a2, hst⟩ := hat k x hx
      obtain ⟨q, cq, rfl⟩ := hst.form
      obtain ⟨m, hm⟩ : ∃ m, x.tops.length = m := ⟨_, rfl⟩
      have hmN : m ≤ 1048576 := by rw [← hm]; exact Nat.le_trans (HTW.out x (List.mem_of_getElem? hx)) HW.out
      rw [hm] at a1 hst
      have HC := Lib.hid (fun W (hb : Below w.heap.size w W) => (show W.cell? ⟨bk, o + k * 3, none⟩ = some (.string x.addr) ∧ W.cell? ⟨bk, o + k * 3 + 1, none⟩ = some (.slice q m cq) ∧ W.cell? ⟨bk, o + k * 3 + 2, none⟩ = some (.string x.data) from
        ⟨(hb.cell (p := ⟨bk, o + k * 3, none⟩) hbk).trans a0, (hb.cell (p := ⟨bk, o + k * 3 + 1, none⟩) hbk).trans a1, (hb.cell (p := ⟨bk, o + k * 3 + 2, none⟩) hbk).trans a2⟩))
      obtain ⟨c0, c1, c2⟩ := HC.out wr hbw
      have g2 : (k : Int) < n := by omega
      obtain ⟨rl, hrl⟩ : ∃ b, rightLog x = b := ⟨_, rfl⟩
      have HIS := Lib.hid (rightLog_lit x rl hrl q m cq hm wr (hst.below hbw) (by omega))
      have HSW := Lib.hid (hst)
      have HX := Lib.hid hx
      have HM := Lib.hid hm
      have HRL := Lib.hid hrl
      have HBW := Lib.hid hbw
      have hf := HF.out
      have HLO := Lib.hid HL.out
      have HOB := Lib.hid (fun g e => (HO.out.1.lt' g e).1)
      have HBK := Lib.hid hbk
      clear hbw a0 a1 a2 hst hm hrl hat HF HL hbk
      go_wp2_with fail
      refine HIS.out.mono ?_
      rintro e w2 ⟨rfl, hb2⟩
      have HB2 := Lib.hid (HB.out.trans (hb2.mono HB.out.size))
      have HBW2 := Lib.hid (HBW.out.trans (hb2.mono HBW.out.size))
      cases rl with
      | false =>
        have HZ2 := Lib.hid (HZ.out.after HB2.out)
        clear hf c0 c1 c2
        have hr : rcptRight ls = false := by
          unfold rcptRight
          rcases HLS.out with ⟨_, h⟩ | ⟨h, _⟩
          · have := h x (List.mem_of_getElem? HX.out)
            rw [HRL.out] at this; cases this
          · rw [h]; rfl
        obtain rfl : rr = false := HRR.out.symm.trans hr
        clear hr
        have e0 := HZ2.out.cell (j := 0) rfl
        have e1 := HZ2.out.cell (j := 1) rfl
        have e2 := HZ2.out.cell (j := 2) rfl
        have f0 := HZ2.out.frozen 0
        have f1 := HZ2.out.frozen 1
        have f2 := HZ2.out.frozen 2
        go_wp2_with fail
        have hf := ((HZ2.out.set 0 (.bool false)).set 1 (.string ⟨#[]⟩)).set 2 (.slice none 0 0)
        have hf' : HasCells _ w.heap.size itemZ 51 := hf
        refine bodyPost_ret (results_cells2 rfl _ _ w.heap.size itemZ _ (by rfl) hf'.range Tryd.underlying51 rfl infoItemC) rfl ?_
        refine ⟨⟨false, none, 0, 0, rfl, fun h => by cases h⟩, ?_⟩
        exact three_below HBW2.out _ _ _
      | true =>
        have hf2 : ∀ j z, j < k + 1 → ls[j]? = some z → rightLog z = true := fun j z hj hz => by
          by_cases h : j = k
          · subst h; rw [HX.out] at hz; cases hz; exact HRL.out
          · exact hf j z (by omega) hz
        have HF2 := Lib.hid hf2
        have HO2 := Lib.hid (HO.out.after hb2)
        clear hf hf2 HIS hb2 c0 c1 c2 HO
        go_wp2_with fail
        go_loopw [7, 8] (fun v i wq => ∃ j : Nat, j ≤ m ∧ i = .int .i64 j ∧ Aside (OwnI w2.heap.size wq v (textRow (x.tops.take j))) ∧ Aside (Below w2.heap.size w2 wq)) (fun _ i _ => m - (RowKit.intOf i).toNat)
        case atStart => exact ⟨0, Nat.zero_le _, rfl, OwnI.nil _ _, Below.refl _ _⟩
        case round =>
          obtain ⟨j, hj, rfl, HT, HBT⟩ := hrel
          have g3 : (0 : Int) ≤ j := by omega
          have hbq := HBW2.out.trans (HBT.out.mono HBW2.out.size)
          obtain ⟨c0, c1, c2⟩ := HC.out wr hbq
          have HBQ := Lib.hid hbq
          clear hbq
          by_cases hjm : j < m
          · obtain ⟨y, hy⟩ : ∃ y, x.tops[j]? = some y := ⟨_, List.getElem?_eq_getElem (by rw [HM.out]; exact hjm)⟩
            obtain ⟨-, bq, oq, rfl, hbq, hatq⟩ := Strs.at HSW.out (by omega)
            have e0 : wr.cell? ⟨bq, oq + j, none⟩ = some (.string y) := (HBQ.out.cell (p := ⟨bq, oq + j, none⟩) hbq).trans (hatq j y hy)
            have hts : textRow (x.tops.take (j + 1)) = textRow (x.tops.take j) ++ [(itT y, .slice none 0 0)] := by unfold textRow; rw [List.take_add_one, hy]; simp
            have hll : (textRow (x.tops.take j)).length = j := by unfold textRow; rw [List.length_map, List.length_take, HM.out]; omega
            obtain ⟨T, hT⟩ : ∃ T, textRow (x.tops.take j) = T := ⟨_, rfl⟩
            have ho := HT.out
            rw [hT] at hts hll ho
            obtain ⟨pt, ct, hv⟩ := ho.form'
            rw [hll] at hv
            subst hv
            have HTS := Lib.hid hts
            have HTL := Lib.hid hll
            have HO1 := Lib.hid ho
            have g4 : (j : Int) < m := by omega
            clear hts hll ho hT hy HT hatq hbq
            go_wp2_with fail
            refine (textRef_any y wr).mono ?_
            rintro e w3 ⟨rfl, hb3⟩
            have HO3 := Lib.hid (HO1.out.after hb3)
            have HB3 := Lib.hid (HBT.out.trans (hb3.mono HBT.out.size))
            clear hb3 HO1 HBT e0 c0 c1 c2
            go_wp2_with (at_builtin; refine wpList_appendJ rfl _ _ rfl w2.heap.size _ T rfl (HO3.out.after (laid1 _ _)) ⟨w3.heap.size, 0, none⟩ 1 (itT y, .slice none 0 0) ⟨_, _, _, rfl⟩ rfl ?c0 ?c1 ?c2 ?_)
            case c0 => exact fun j u hu => by rw [addr_add']; exact cells_at w3 (itemCells [(itT y, .slice none 0 0)]) _ j u hu
            case c1 => rw [HTL.out]; omega
            case c2 => have := HB3.out.size; simp; omega
            intro v5 w5 ho5 hg5
            have hb5 : Below w2.heap.size w2 w5 := (HB3.out.alloc HB3.out.size _).grown hg5 (by have := HB3.out.size; simp; omega) (fun r e => (HO3.out.lt' r e).1)
            rw [← HTS.out] at ho5
            have HO5 := Lib.hid ho5
            have HB5 := Lib.hid hb5
            clear ho5 hg5 hb5 HO3 HB3
            go_wp2
            go_roundw
            case rel => exact ⟨j + 1, by omega, by go_num, HO5.out, HB5.out⟩
            case measure => simp [RowKit.intOf]; omega
          · have hjm2 : j = m := by omega
            have g4 : ¬ ((j : Int) < m) := by omega
            have ho := HT.out
            rw [List.take_of_length_le (by rw [HM.out]; omega)] at ho
            have hr := ho.texts
            obtain ⟨pt, ct, hv⟩ := hr.form
            rw [List.length_map, HM.out] at hv
            subst hv
            have HR := Lib.hid hr
            have HS := Lib.hid (fun W (hb : Below wr.heap.size wr W) => (HC.out W (HBQ.out.trans (hb.mono HBQ.out.size))))
            clear ho HT hr hjm2
            go_wp2_with fail
            clear c0 c1 c2
            have b0 : Below wr.heap.size wr wr.drew := (Below.refl _ _).drew
            refine wp_region_held_drew (S := (fun W => W.cell? ⟨bk, o + k * 3, none⟩ = some (.string x.addr) ∧ W.cell? ⟨bk, o + k * 3 + 1, none⟩ = some (.slice q m cq) ∧ W.cell? ⟨bk, o + k * 3 + 2, none⟩ = some (.string x.data))) (by kernel_rfl) (HS.out _ b0) (fun hHeld => ?_)
            refine wpAnyH_take (i := 0) (v := ?_) rfl (by kernel_rfl) (by kernel_rfl) (by kernel_rfl) (fun _ _ _ h => h) (.inl ⟨by rfl, ?_⟩) (by assumption) ?_
            rotate_left 1
            · intro w0 hSw
              go_simp <;> with_reducible rfl
            try simp only [Act.put, List.getElem_toArray, List.getElem_cons_zero, List.setIfInBounds_toArray, List.set_cons_zero, List.set_cons_succ]
            refine wpAnyH_take (i := 1) (v := ?_) rfl (by kernel_rfl) (by kernel_rfl) (by kernel_rfl) (fun _ _ _ h => h) (.inl ⟨by rfl, ?_⟩) (by assumption) ?_
            rotate_left 1
            · intro w0 hSw
              go_simp <;> with_reducible rfl
            try simp only [Act.put, List.getElem_toArray, List.getElem_cons_zero, List.getElem_cons_succ, List.setIfInBounds_toArray, List.set_cons_zero, List.set_cons_succ]
            refine wpAnyH_take (i := 2) (v := ?_) rfl (by kernel_rfl) (by kernel_rfl) (by kernel_rfl) (fun _ _ _ h => h) (.inl ⟨by rfl, ?_⟩) (by assumption) ?_
            rotate_left 1
            · intro w0 hSw
              go_simp <;> with_reducible rfl
            try simp only [Act.put, List.getElem_toArray, List.getElem_cons_zero, List.getElem_cons_succ, List.setIfInBounds_toArray, List.set_cons_zero, List.set_cons_succ]
            refine wpAnyH_take (i := 3) (v := ?_) rfl (by kernel_rfl) (by kernel_rfl) (by kernel_rfl) (fun _ _ _ h => h) (.inl ⟨by rfl, ?_⟩) (by assumption) ?_
            rotate_left 1
            · intro w0 hSw
              go_simp <;> with_reducible rfl
            try simp only [Act.put, List.getElem_toArray, List.getElem_cons_zero, List.getElem_cons_succ, List.setIfInBounds_toArray, List.set_cons_zero, List.set_cons_succ]
            refine wpAnyH_take (i := 4) (v := ?_) rfl (by kernel_rfl) (by kernel_rfl) (by kernel_rfl) (fun _ _ _ h => h) (.inl ⟨by rfl, ?_⟩) (by assumption) ?_
            rotate_left 1
            · intro w0 hSw
              go_simp <;> with_reducible rfl
            try simp only [Act.put, List.getElem_toArray, List.getElem_cons_zero, List.getElem_cons_succ, List.setIfInBounds_toArray, List.set_cons_zero, List.set_cons_succ]
            refine wpAnyH_take (i := 5) (v := ?_) rfl (by kernel_rfl) (by kernel_rfl) (by kernel_rfl) (fun _ _ _ h => h) (.inl ⟨by rfl, ?_⟩) (by assumption) ?_
            rotate_left 1
            · intro w0 hSw
              obtain ⟨z0, z1, z2⟩ := hSw
              go_simp <;> with_reducible rfl
            try simp only [Act.put, List.getElem_toArray, List.getElem_cons_zero, List.getElem_cons_succ, List.setIfInBounds_toArray, List.set_cons_zero, List.set_cons_succ]
            refine wpAnyH_take (i := 7) (v := ?_) rfl (by kernel_rfl) (by kernel_rfl) (by kernel_rfl) (fun _ _ _ h => h) (.inl ⟨by rfl, ?_⟩) (by assumption) ?_
            rotate_left 1
            · intro w0 hSw
              go_simp <;> with_reducible rfl
            try simp only [Act.put, List.getElem_toArray, List.getElem_cons_zero, List.getElem_cons_succ, List.setIfInBounds_toArray, List.set_cons_zero, List.set_cons_succ]
            refine wpAnyH_take (i := 9) (v := ?_) rfl (by kernel_rfl) (by kernel_rfl) (by kernel_rfl) (fun _ _ _ h => h) (.inl ⟨by rfl, ?_⟩) (by assumption) ?_
            rotate_left 1
            · intro w0 hSw
              go_simp <;> with_reducible rfl
            try simp only [Act.put, List.getElem_toArray, List.getElem_cons_zero, List.getElem_cons_succ, List.setIfInBounds_toArray, List.set_cons_zero, List.set_cons_succ]
            refine wpAnyH_take (i := 10) (v := ?_) rfl (by kernel_rfl) (by kernel_rfl) (by kernel_rfl) (fun _ _ _ h => h) (.inl ⟨by rfl, ?_⟩) (by assumption) ?_
            rotate_left 1
            · intro w0 hSw
              go_simp <;> with_reducible rfl
            try simp only [Act.put, List.getElem_toArray, List.getElem_cons_zero, List.getElem_cons_succ, List.setIfInBounds_toArray, List.set_cons_zero, List.set_cons_succ]
            refine wpAnyH_take (i := 11) (v := ?_) rfl (by kernel_rfl) (by kernel_rfl) (by kernel_rfl) (fun _ _ _ h => h) (.inl ⟨by rfl, ?_⟩) (by assumption) ?_
            rotate_left 1
            · intro w0 hSw
              go_simp <;> with_reducible rfl
            try simp only [Act.put, List.getElem_toArray, List.getElem_cons_zero, List.getElem_cons_succ, List.setIfInBounds_toArray, List.set_cons_zero, List.set_cons_succ]
            refine wpAnyH_take (i := 12) (v := ?_) rfl (by kernel_rfl) (by kernel_rfl) (by kernel_rfl) (fun _ _ _ h => h) (.inl ⟨by rfl, ?_⟩) (by assumption) ?_
            rotate_left 1
            · intro w0 hSw
              go_simp <;> with_reducible rfl
            try simp only [Act.put, List.getElem_toArray, List.getElem_cons_zero, List.getElem_cons_succ, List.setIfInBounds_toArray, List.set_cons_zero, List.set_cons_succ]
            refine wpAnyH_take (i := 13) (v := ?_) rfl (by kernel_rfl) (by kernel_rfl) (by kernel_rfl) (fun _ _ _ h => h) (.inl ⟨by rfl, ?_⟩) (by assumption) ?_
            rotate_left 1
            · intro w0 hSw
              obtain ⟨z0, z1, z2⟩ := hSw
              go_simp <;> with_reducible rfl
            try simp only [Act.put, List.getElem_toArray, List.getElem_cons_zero, List.getElem_cons_succ, List.setIfInBounds_toArray, List.set_cons_zero, List.set_cons_succ]
            refine wpAnyH_ready (rs := [6]) (by kernel_rfl) (by simp) ?_
            refine AllReadyH.cons rfl (fun K hK => ?_) AllReadyH.nil
            go_simp
            go_at_call 33
            refine (textRef_any _ _).mono ?_
            rintro e w4 ⟨rfl, hb4⟩
            have b4 : Below wr.heap.size wr w4 := b0.trans (hb4.mono b0.size)
            clear hb4
            refine hK.out _ _ (HS.out _ b4) (fun hHeld => ?_)
            clear hK K
            try simp only [Act.put, List.getElem_toArray, List.getElem_cons_zero, List.getElem_cons_succ, List.setIfInBounds_toArray, List.set_cons_zero, List.set_cons_succ]
            refine wpAnyH_ready (rs := [8]) (by kernel_rfl) (by simp) ?_
            refine AllReadyH.cons rfl (fun K hK => ?_) AllReadyH.nil
            go_simp
            go_at_call 39
            refine (listRef_any _ _ _ _).mono ?_
            rintro e w5 ⟨rfl, hb5⟩
            have b5 : Below wr.heap.size wr w5 := b4.trans (hb5.mono b4.size)
            clear hb5
            refine hK.out _ _ (HS.out _ b5) (fun hHeld => ?_)
            clear hK K
            try simp only [Act.put, List.getElem_toArray, List.getElem_cons_zero, List.getElem_cons_succ, List.setIfInBounds_toArray, List.set_cons_zero, List.set_cons_succ]
            refine wpAnyH_ready (rs := [14]) (by kernel_rfl) (by simp) ?_
            refine AllReadyH.cons rfl (fun K hK => ?_) AllReadyH.nil
            go_simp
            go_at_call 33
            refine (textRef_any _ _).mono ?_
            rintro e w6 ⟨rfl, hb6⟩
            have b6 : Below wr.heap.size wr w6 := b5.trans (hb6.mono b5.size)
            clear hb6
            refine hK.out _ _ (HS.out _ b6) (fun hHeld => ?_)
            clear hK K
            try simp only [Act.put, List.getElem_toArray, List.getElem_cons_zero, List.getElem_cons_succ, List.setIfInBounds_toArray, List.set_cons_zero, List.set_cons_succ]
            refine wpAnyH_ready (rs := [15]) (by kernel_rfl) (by simp) ?_
            refine AllReadyH.cons rfl (fun K hK => ?_) AllReadyH.nil
            go_simp
            have hal : ∃ W, w6.alloc (.cells #[.bool false, .string x.addr, .slice none 0 0, .bool true, .string ⟨#[]⟩, .slice pt m ct, .bool false, .string x.data, .slice none 0 0] 51) = W := ⟨_, rfl⟩
            obtain ⟨w7, hal⟩ := hal
            have hb7 : Below w6.heap.size w6 w7 := by rw [← hal]; exact laid1 w6 _
            have b7 : Below wr.heap.size wr w7 := b6.trans (hb7.mono b6.size)
            have HR7 := Lib.hid (show RIn w7 w2.heap.size (.slice (some ⟨w6.heap.size, 0, none⟩) 3 3) (logItem x).list from by
              rw [← hal]
              refine reads_new w6 w2.heap.size 3 [(itT x.addr, .slice none 0 0), (itL (x.tops.map itT), .slice pt m ct), (itT x.data, .slice none 0 0)] rfl (by have := HBT.out.size; have := b6.size; omega) (fun q hq => ?_)
              simp only [List.mem_cons, List.not_mem_nil, or_false] at hq
              rcases hq with rfl | rfl | rfl
              · exact RIn.nil _ _
              · exact HR.out.below b6
              · exact RIn.nil _ _)
            rw [hal]
            clear hal hb7
            refine hK.out _ _ (HS.out _ b7) (fun hHeld => ?_)
            clear hK K
            try simp only [Act.put, List.getElem_toArray, List.getElem_cons_zero, List.getElem_cons_succ, List.setIfInBounds_toArray, List.set_cons_zero, List.set_cons_succ]
            refine wpAnyH_ready (rs := [16]) (by kernel_rfl) (by simp) ?_
            refine AllReadyH.cons rfl (fun K hK => ?_) AllReadyH.nil
            go_simp
            go_at_call 39
            refine (listRef_any _ _ _ _).mono ?_
            rintro e w8 ⟨rfl, hb8⟩
            have b8 : Below wr.heap.size wr w8 := b7.trans (hb8.mono b7.size)
            have HR8 := Lib.hid (HR7.out.below hb8)
            clear hb8 HR7
            refine hK.out _ _ (HS.out _ b8) (fun hHeld => ?_)
            clear hK K
            try simp only [Act.put, List.getElem_toArray, List.getElem_cons_zero, List.getElem_cons_succ, List.setIfInBounds_toArray, List.set_cons_zero, List.set_cons_succ]
            refine wpAnyH_ready (rs := [17]) (by kernel_rfl) (by simp) ?_
            refine AllReadyH.cons rfl (fun K hK => ?_) AllReadyH.nil
            go_simp
            have hal : ∃ W, w8.alloc (.cells #[.bool true, .string ⟨#[]⟩, .slice (some ⟨w6.heap.size, 0, none⟩) 3 3] 51) = W := ⟨_, rfl⟩
            obtain ⟨w9, hal⟩ := hal
            have hb9 : Below w8.heap.size w8 w9 := by rw [← hal]; exact laid1 w8 _
            have b9 : Below wr.heap.size wr w9 := b8.trans (hb9.mono b8.size)
            have HR9 := Lib.hid (HR8.out.below hb9)
            have HC9 := Lib.hid (show ∀ j u, (itemCells [(logItem x, .slice (some ⟨w6.heap.size, 0, none⟩) 3 3)])[j]? = some u → w9.cell? ⟨w8.heap.size, j, none⟩ = some u from by
              rw [← hal]
              exact fun j u hu => cells_at w8 _ _ j u hu)
            rw [hal]
            clear hal hb9 HR8
            refine hK.out _ _ (HS.out _ b9) (fun hHeld => ?_)
            clear hK K
            try simp only [Act.put, List.getElem_toArray, List.getElem_cons_zero, List.getElem_cons_succ, List.setIfInBounds_toArray, List.set_cons_zero, List.set_cons_succ]
            refine wpAnyH_ready (rs := [18]) (by kernel_rfl) (by simp) ?_
            refine AllReadyH.cons rfl (fun K hK => ?_) AllReadyH.nil
            have bw9 : Below w2.heap.size w2 w9 := HBT.out.trans (b9.mono HBT.out.size)
            have HO9 := Lib.hid (HO2.out.after bw9)
            refine step_appendI rfl _ _ rfl w0.heap.size (.slice pv k cv) L rfl HO9.out.1 ⟨w8.heap.size, 0, none⟩ 1 (logItem x, .slice (some ⟨w6.heap.size, 0, none⟩) 3 3) ⟨_, _, _, rfl⟩ rfl ?f0 ?f1 ?f2 ?_
            case f0 => exact fun j u hu => by rw [addr_add']; exact HC9.out j u hu
            case f1 => rw [HLL.out]; omega
            case f2 => have := HB2.out.size; have := bw9.size; omega
            intro v10 w10 ho10 hg10 hv10
            have hon : RowI w0.heap.size w10 v10 (L ++ [(logItem x, .slice (some ⟨w6.heap.size, 0, none⟩) 3 3)]) := HO9.out.snoc (HO2.out.fresh HB2.out.size HR9.out) ho10 hg10 hv10
            have hbn : Below w0.heap.size w0 w10 := (HB2.out.trans (bw9.mono HB2.out.size)).grown hg10 (by have := HB2.out.size; have := bw9.size; omega) (fun r e => (HO9.out.1.lt' r e).1)
            have hln : (L ++ [(logItem x, Value.slice (some ⟨w6.heap.size, 0, none⟩) 3 3)]).map Prod.fst = (ls.take (k + 1)).map logItem := by rw [List.map_append, HLO.out, List.take_add_one, HX.out]; simp
            have HON := Lib.hid hon
            have HBN := Lib.hid hbn
            have HLN := Lib.hid hln
            have s9 := hHeld
            have hbb : w10.heap[bk]? = w9.heap[bk]? := hg10.block bk (by have := HBK.out; have := HBW2.out.size; have := bw9.size; omega) (fun e => by have := HOB.out bk e.symm; have := HBK.out; omega)
            clear hon hbn hln ho10 hg10 hv10
            refine hK.out _ _ (⟨(World.cell?_of_block (a := ⟨bk, o + k * 3, none⟩) hbb).trans s9.1, (World.cell?_of_block (a := ⟨bk, o + k * 3 + 1, none⟩) hbb).trans s9.2.1, (World.cell?_of_block (a := ⟨bk, o + k * 3 + 2, none⟩) hbb).trans s9.2.2⟩) (fun hHeld => ?_)
            clear hK K
            try simp only [Act.put, List.getElem_toArray, List.getElem_cons_zero, List.getElem_cons_succ, List.setIfInBounds_toArray, List.set_cons_zero, List.set_cons_succ]
            refine wpAnyH_take (i := 19) (v := ?_) rfl (by kernel_rfl) (by kernel_rfl) (by kernel_rfl) (fun _ _ _ h => h) (.inl ⟨by rfl, ?_⟩) (by assumption) ?_
            rotate_left 1
            · intro w0 hSw
              go_simp <;> with_reducible rfl
            try simp only [Act.put, List.getElem_toArray, List.getElem_cons_zero, List.getElem_cons_succ, List.setIfInBounds_toArray, List.set_cons_zero, List.set_cons_succ]
            refine wpAnyH_done (by kernel_rfl) ?_ 0
            go_wp2_with fail
            go_roundw
            case rel => exact ⟨rfl, k + 1, _, by omega, by go_num, HF2.out, HLN.out, HON.out, HBN.out⟩
            case measure => simp [RowKit.intOf]; omega
    · have hkn : k = n := by omega
      subst hkn
      have g2 : ¬ ((k : Int) < k) := by omega
      have hall : ls.all rightLog = true := by
        rcases HLS.out with ⟨h1, _⟩ | ⟨_, y, h2, h3⟩
        · exact h1
        · obtain ⟨j, hj⟩ := List.getElem?_of_mem h2
          have := HF.out j y (by have := (List.getElem?_eq_some_iff.1 hj).1; rw [HN.out] at this; omega) hj
          rw [h3] at this; cases this
      have hr := HO.out.rin
      rw [HL.out, List.take_of_length_le (by rw [HN.out]; omega)] at hr
      have HRL := Lib.hid hr
      have HBW := Lib.hid (HB0.out.trans (HB.out.mono (by omega)))
      have HZW := Lib.hid (HZ.out.after HB.out)
      have hrr : (if (k : Int) ≤ 20 then true else false) = rr := by
        rw [← HRR.out]
        unfold rcptRight
        rw [hall, HN.out]
        by_cases h : k ≤ 20
        · rw [if_pos (by omega), decide_eq_true h]; rfl
        · rw [if_neg (by omega), decide_eq_false h]; rfl
      have hrr2 : decide ((k : Int) ≤ 20) = rr := by rw [← hrr]; by_cases h : (k : Int) ≤ 20 <;> simp [h]
      clear HF HL HO hall hr hrr
      go_wp2_with fail
      refine (listRef_any pv k cv wr).mono ?_
      rintro e w3 ⟨rfl, hb3⟩
      have HZ3 := Lib.hid (HZW.out.after hb3)
      have HR3 := Lib.hid (HRL.out.below hb3)
      have HB3 := Lib.hid (HBW.out.trans (hb3.mono HBW.out.size))
      clear hb3 HZW HRL HBW
      have e0 := HZ3.out.cell (j := 0) rfl
      have e1 := HZ3.out.cell (j := 1) rfl
      have e2 := HZ3.out.cell (j := 2) rfl
      have f0 := HZ3.out.frozen 0
      have f1 := HZ3.out.frozen 1
      have f2 := HZ3.out.frozen 2
      go_wp2_with fail
      have hf := ((HZ3.out.set 0 (.bool true)).set 1 (.string ⟨#[]⟩)).set 2 (.slice pv k cv)
      have hf' : HasCells _ w.heap.size [.bool true, .string ⟨#[]⟩, .slice pv k cv] 51 := hf
      refine bodyPost_ret (results_cells2 rfl _ _ w.heap.size [.bool true, .string ⟨#[]⟩, .slice pv k cv] _ (by rfl) hf'.range Tryd.underlying51 rfl infoItemC) rfl ?_
      refine ⟨⟨true, pv, k, cv, by first | rfl | (rw [← hrr2]; rfl), fun _ => ⟨rfl, ?_⟩⟩, ?_⟩
      · exact ((RIn.store HR3.out (by omega) _).store (by omega) _).store (by omega) _ |>.mono (by omega)
      · exact three_below HB3.out _ _ _
theorem numberRefB_lit (n : Nat) (hn : n < 18446744073709551616) (w : World) : Calls Tryd.prog 40 #[.int .u64 n] w fun e w' => e = .returned (.string ⟨(num n).toArray⟩) ∧ Below w.heap.size w w' := numberRef_any n w hn
set_option maxRecDepth 100000 in
set_option maxHeartbeats 6400000 in
theorem rcptBytesRef_any (good : Bool) (gas : Nat) (ls : List LogD) (p : Option Addr) (c : Nat) (w : World) (hv : Logs w (.slice p ls.length c) ls) (hg : gas < 18446744073709551616) (hw : weightL ls ≤ 1048576) :
    Calls Tryd.prog 15 #[.agg #[.bool good, .int .u64 gas, .slice p ls.length c]] w fun e w' => e = .returned (.tuple #[.string ⟨(rcptBytes good gas ls).1.toArray⟩, .int .i64 (rcptBytes good gas ls).2]) ∧ Below w.heap.size w w' := by
  have HSM := Lib.hid (rcpt_small good (gas := gas) ls hw)
  obtain ⟨P, E, hPE⟩ : ∃ P E, rcptBytes good gas ls = (P, E) := ⟨_, _, rfl⟩
  rw [hPE]
  unfold rcptBytes at hPE
  have HPE := Lib.hid hPE
  have HB0 := Lib.hid (laid1 w (.cells #[.bool good, .int .u64 gas, .slice p ls.length c] 38))
  have HLG := Lib.hid (fun W (hb : Below w.heap.size w W) => logsRef_any ls p c W (hv.below hb) hw)
  have HNL := Lib.hid (fun W => numberRefB_lit gas hg W)
  obtain ⟨n, hn⟩ : ∃ n, ls.length = n := ⟨_, rfl⟩
  rw [hn] at HB0 HLG ⊢
  clear hPE hv hg hw hn
  go_enter Tryd.func15, Tryd.ntmps15
  go_wp2_with fail
  refine (HLG.out _ HB0.out).mono ?_
  rintro e w1 ⟨⟨b, q, m, cc, rfl, hgv⟩, hb1⟩
  have hz := cells_three (w := w) (W := w1) (v0 := .bool good) (v1 := .int .u64 gas) (v2 := .slice p n c) (t := 38) hb1
  have HZ := Lib.hid hz
  have hz1 : w.heap.size + 1 ≤ w1.heap.size := by have := hb1.size; simp at this; omega
  have HB1 := Lib.hid (HB0.out.trans (hb1.mono HB0.out.size))
  have HGV := Lib.hid hgv
  obtain ⟨rr, hrr⟩ : ∃ r, rcptRight ls = r := ⟨_, rfl⟩
  rw [hrr] at HGV HPE ⊢
  clear hb1 hgv hz hrr
  cases rr with
  | false =>
    go_wp2_with fail
    go_ret2
    have h := HPE.out
    cases h
    exact ⟨rfl, HB1.out.alloc HB1.out.size _⟩
  | true =>
    obtain ⟨rfl, hri⟩ := HGV.out rfl
    have hpe : encode (rcptItem good gas ls) = (P, E) := HPE.out
    have HE := Lib.hid hpe
    have hba := laid1 w1 (.cells #[.bool true, .string ⟨#[]⟩, .slice q m cc] 51)
    have hq := cells_three (w := w1) (v0 := .bool true) (v1 := .string ⟨#[]⟩) (v2 := .slice q m cc) (t := 51) (Below.refl _ _)
    have hs1 : (w1.alloc (.cells #[.bool true, .string ⟨#[]⟩, .slice q m cc] 51)).cell? ⟨w.heap.size, 0, none⟩ = some (.bool good) := (hba.cell (p := ⟨w.heap.size, 0, none⟩) (by show w.heap.size < _; omega)).trans HZ.out.1
    have hs2 : (w1.alloc (.cells #[.bool true, .string ⟨#[]⟩, .slice q m cc] 51)).cell? ⟨w.heap.size, 1, none⟩ = some (.int .u64 gas) := (hba.cell (p := ⟨w.heap.size, 1, none⟩) (by show w.heap.size < _; omega)).trans HZ.out.2.1
    have hs3 := hs2
    have hri2 := hri.below hba
    obtain ⟨wz, hwz⟩ : ∃ W, w1.alloc (.cells #[.bool true, .string ⟨#[]⟩, .slice q m cc] 51) = W := ⟨_, rfl⟩
    rw [hwz] at hba hq hs3 hri2
    have HWZ := Lib.hid hwz
    have HRZ := Lib.hid hri2
    have HQ := Lib.hid (And.intro hq hs3)
    have HBZ := Lib.hid (HB1.out.trans (hba.mono HB1.out.size))
    have HBA := Lib.hid (show w.heap.size + 1 ≤ wz.heap.size from by have := hba.size; omega)
    clear hwz hri2 hq hba hri hpe hs3
    have HSS := Lib.hid (fun W (hb : Below wz.heap.size wz W) => (show (W.cell? ⟨w1.heap.size, 0, none⟩ = some (.bool true) ∧ W.cell? ⟨w1.heap.size, 1, none⟩ = some (.string ⟨#[]⟩) ∧ W.cell? ⟨w1.heap.size, 2, none⟩ = some (.slice q m cc)) ∧ W.cell? ⟨w.heap.size, 1, none⟩ = some (.int .u64 gas) from by
      have k0 := World.block_lt_of_cell? _ _ HQ.out.1.1
      have k1 := World.block_lt_of_cell? _ _ HQ.out.2
      exact ⟨⟨(hb.cell (p := ⟨w1.heap.size, 0, none⟩) k0).trans HQ.out.1.1, (hb.cell (p := ⟨w1.heap.size, 1, none⟩) k0).trans HQ.out.1.2.1, (hb.cell (p := ⟨w1.heap.size, 2, none⟩) k0).trans HQ.out.1.2.2⟩, (hb.cell (p := ⟨w.heap.size, 1, none⟩) k1).trans HQ.out.2⟩))
    have HP0 := HE
    cases good with
    | false =>
      go_wp2_with fail
      rw [HWZ.out]
      clear hs1 hs2
      have b0 : Below wz.heap.size wz wz.drew := (Below.refl _ _).drew
      refine wp_region_held_drew (S := (fun W => (W.cell? ⟨w1.heap.size, 0, none⟩ = some (.bool true) ∧ W.cell? ⟨w1.heap.size, 1, none⟩ = some (.string ⟨#[]⟩) ∧ W.cell? ⟨w1.heap.size, 2, none⟩ = some (.slice q m cc)) ∧ W.cell? ⟨w.heap.size, 1, none⟩ = some (.int .u64 gas))) (by kernel_rfl) (HSS.out _ b0) (fun hHeld => ?_)
      refine wpAnyH_take (i := 0) (v := ?_) rfl (by kernel_rfl) (by kernel_rfl) (by kernel_rfl) (fun _ _ _ h => h) (.inl ⟨by rfl, ?_⟩) (by assumption) ?_
      rotate_left 1
      · intro w0 hSw
        go_simp <;> with_reducible rfl
      try simp only [Act.put, List.getElem_toArray, List.getElem_cons_zero, List.setIfInBounds_toArray, List.set_cons_zero, List.set_cons_succ]
      refine wpAnyH_take (i := 2) (v := ?_) rfl (by kernel_rfl) (by kernel_rfl) (by kernel_rfl) (fun _ _ _ h => h) (.inl ⟨by rfl, ?_⟩) (by assumption) ?_
      rotate_left 1
      · intro w0 hSw
        go_simp <;> with_reducible rfl
      try simp only [Act.put, List.getElem_toArray, List.getElem_cons_zero, List.getElem_cons_succ, List.setIfInBounds_toArray, List.set_cons_zero, List.set_cons_succ]
      refine wpAnyH_take (i := 3) (v := ?_) rfl (by kernel_rfl) (by kernel_rfl) (by kernel_rfl) (fun _ _ _ h => h) (.inl ⟨by rfl, ?_⟩) (by assumption) ?_
      rotate_left 1
      · intro w0 hSw
        obtain ⟨⟨z0, z1, z2⟩, z3⟩ := hSw
        go_simp <;> with_reducible rfl
      try simp only [Act.put, List.getElem_toArray, List.getElem_cons_zero, List.getElem_cons_succ, List.setIfInBounds_toArray, List.set_cons_zero, List.set_cons_succ]
      refine wpAnyH_take (i := 6) (v := ?_) rfl (by kernel_rfl) (by kernel_rfl) (by kernel_rfl) (fun _ _ _ h => h) (.inl ⟨by rfl, ?_⟩) (by assumption) ?_
      rotate_left 1
      · intro w0 hSw
        obtain ⟨⟨z0, z1, z2⟩, z3⟩ := hSw
        go_simp <;> with_reducible rfl
      try simp only [Act.put, List.getElem_toArray, List.getElem_cons_zero, List.getElem_cons_succ, List.setIfInBounds_toArray, List.set_cons_zero, List.set_cons_succ]
      refine wpAnyH_ready (rs := [1]) (by kernel_rfl) (by simp) ?_
      refine AllReadyH.cons rfl (fun K hK => ?_) AllReadyH.nil
      go_simp
      go_at_call 33
      refine (textRef_any _ _).mono ?_
      rintro e v4 ⟨rfl, hb4⟩
      have b4 : Below wz.heap.size wz v4 := b0.trans (hb4.mono b0.size)
      clear hb4
      refine hK.out _ _ (HSS.out _ b4) (fun hHeld => ?_)
      clear hK K
      try simp only [Act.put, List.getElem_toArray, List.getElem_cons_zero, List.getElem_cons_succ, List.setIfInBounds_toArray, List.set_cons_zero, List.set_cons_succ]
      refine wpAnyH_ready (rs := [4]) (by kernel_rfl) (by simp) ?_
      refine AllReadyH.cons rfl (fun K hK => ?_) AllReadyH.nil
      go_simp
      go_at_call 40
      refine (HNL.out _).mono ?_
      rintro e v5 ⟨rfl, hb5⟩
      have b5 : Below wz.heap.size wz v5 := b4.trans (hb5.mono b4.size)
      clear hb5
      refine hK.out _ _ (HSS.out _ b5) (fun hHeld => ?_)
      clear hK K
      try simp only [Act.put, List.getElem_toArray, List.getElem_cons_zero, List.getElem_cons_succ, List.setIfInBounds_toArray, List.set_cons_zero, List.set_cons_succ]
      refine wpAnyH_ready (rs := [5]) (by kernel_rfl) (by simp) ?_
      refine AllReadyH.cons rfl (fun K hK => ?_) AllReadyH.nil
      go_simp
      go_at_call 33
      refine (textRef_any _ _).mono ?_
      rintro e v6 ⟨rfl, hb6⟩
      have b6 : Below wz.heap.size wz v6 := b5.trans (hb6.mono b5.size)
      clear hb6
      refine hK.out _ _ (HSS.out _ b6) (fun hHeld => ?_)
      clear hK K
      try simp only [Act.put, List.getElem_toArray, List.getElem_cons_zero, List.getElem_cons_succ, List.setIfInBounds_toArray, List.set_cons_zero, List.set_cons_succ]
      refine wpAnyH_ready (rs := [7]) (by kernel_rfl) (by simp) ?_
      refine AllReadyH.cons rfl (fun K hK => ?_) AllReadyH.nil
      go_simp
      have hal : ∃ W, v6.alloc (.cells #[.bool false, .string ⟨#[]⟩, .slice none 0 0, .bool false, .string ⟨(num gas).toArray⟩, .slice none 0 0, .bool true, .string ⟨#[]⟩, .slice q m cc] 51) = W := ⟨_, rfl⟩
      obtain ⟨v7, hal⟩ := hal
      have hb7 : Below v6.heap.size v6 v7 := by rw [← hal]; exact laid1 v6 _
      have b7 : Below wz.heap.size wz v7 := b6.trans (hb7.mono b6.size)
      have HR7 := Lib.hid (show RIn v7 w.heap.size (.slice (some ⟨v6.heap.size, 0, none⟩) 3 3) (rcptItem false gas ls).list from by
        rw [← hal]
        refine reads_new v6 w.heap.size 3 [(.mk false (goodL false) [], .slice none 0 0), (itN gas, .slice none 0 0), (itL (ls.map logItem), .slice q m cc)] rfl (by have := HBA.out; have := b6.size; omega) (fun q hq => ?_)
        simp only [List.mem_cons, List.not_mem_nil, or_false] at hq
        rcases hq with rfl | rfl | rfl
        · exact RIn.nil _ _
        · exact RIn.nil _ _
        · exact (HRZ.out.below b6).mono (by simp))
      rw [hal]
      clear hal hb7
      refine hK.out _ _ (HSS.out _ b7) (fun hHeld => ?_)
      clear hK K
      try simp only [Act.put, List.getElem_toArray, List.getElem_cons_zero, List.getElem_cons_succ, List.setIfInBounds_toArray, List.set_cons_zero, List.set_cons_succ]
      refine wpAnyH_ready (rs := [8]) (by kernel_rfl) (by simp) ?_
      refine AllReadyH.cons rfl (fun K hK => ?_) AllReadyH.nil
      go_simp
      go_at_call 39
      refine (listRef_any _ _ _ _).mono ?_
      rintro e v8 ⟨rfl, hb8⟩
      have b8 : Below wz.heap.size wz v8 := b7.trans (hb8.mono b7.size)
      have HR8 := Lib.hid (HR7.out.below hb8)
      clear hb8 HR7
      have hen := encodeRef_any (rcptItem false gas ls) (.slice (some ⟨v6.heap.size, 0, none⟩) 3 3) v8 HSM.out.1 HSM.out.2 HR8.out.reads
      unfold encodeV at hen
      rw [HE.out] at hen
      dsimp only at hen
      have HEN := Lib.hid hen
      clear hen
      refine hK.out _ _ (HSS.out _ b8) (fun hHeld => ?_)
      clear hK K
      try simp only [Act.put, List.getElem_toArray, List.getElem_cons_zero, List.getElem_cons_succ, List.setIfInBounds_toArray, List.set_cons_zero, List.set_cons_succ]
      refine wpAnyH_ready (rs := [9]) (by kernel_rfl) (by simp) ?_
      refine AllReadyH.cons rfl (fun K hK => ?_) AllReadyH.nil
      go_simp
      go_at_call 32
      refine (HEN.out).mono ?_
      rintro e v9 ⟨rfl, hb9⟩
      have b9 : Below wz.heap.size wz v9 := b8.trans (hb9.mono b8.size)
      clear hb9
      refine hK.out _ _ (HSS.out _ b9) (fun hHeld => ?_)
      clear hK K
      try simp only [Act.put, List.getElem_toArray, List.getElem_cons_zero, List.getElem_cons_succ, List.setIfInBounds_toArray, List.set_cons_zero, List.set_cons_succ]
      refine wpAnyH_take (i := 10) (v := ?_) rfl (by kernel_rfl) (by kernel_rfl) (by kernel_rfl) (fun _ _ _ h => h) (.inl ⟨by rfl, ?_⟩) (by assumption) ?_
      rotate_left 1
      · intro w0 hSw
        go_simp <;> with_reducible rfl
      try simp only [Act.put, List.getElem_toArray, List.getElem_cons_zero, List.getElem_cons_succ, List.setIfInBounds_toArray, List.set_cons_zero, List.set_cons_succ]
      refine wpAnyH_take (i := 11) (v := ?_) rfl (by kernel_rfl) (by kernel_rfl) (by kernel_rfl) (fun _ _ _ h => h) (.inl ⟨by rfl, ?_⟩) (by assumption) ?_
      rotate_left 1
      · intro w0 hSw
        go_simp <;> with_reducible rfl
      try simp only [Act.put, List.getElem_toArray, List.getElem_cons_zero, List.getElem_cons_succ, List.setIfInBounds_toArray, List.set_cons_zero, List.set_cons_succ]
      refine wpAnyH_take (i := 12) (v := ?_) rfl (by kernel_rfl) (by kernel_rfl) (by kernel_rfl) (fun _ _ _ h => h) (.inl ⟨by rfl, ?_⟩) (by assumption) ?_
      rotate_left 1
      · intro w0 hSw
        go_simp <;> with_reducible rfl
      try simp only [Act.put, List.getElem_toArray, List.getElem_cons_zero, List.getElem_cons_succ, List.setIfInBounds_toArray, List.set_cons_zero, List.set_cons_succ]
      refine wpAnyH_take (i := 13) (v := ?_) rfl (by kernel_rfl) (by kernel_rfl) (by kernel_rfl) (fun _ _ _ h => h) (.inl ⟨by rfl, ?_⟩) (by assumption) ?_
      rotate_left 1
      · intro w0 hSw
        go_simp <;> with_reducible rfl
      try simp only [Act.put, List.getElem_toArray, List.getElem_cons_zero, List.getElem_cons_succ, List.setIfInBounds_toArray, List.set_cons_zero, List.set_cons_succ]
      refine wpAnyH_done (by kernel_rfl) ?_ 0
      go_wp2_with fail
      go_ret2
      exact ⟨rfl, HBZ.out.trans (b9.mono HBZ.out.size)⟩
    | true =>
      go_wp2_with fail
      rw [HWZ.out]
      clear hs1 hs2
      have b0 : Below wz.heap.size wz wz.drew := (Below.refl _ _).drew
      refine wp_region_held_drew (S := (fun W => (W.cell? ⟨w1.heap.size, 0, none⟩ = some (.bool true) ∧ W.cell? ⟨w1.heap.size, 1, none⟩ = some (.string ⟨#[]⟩) ∧ W.cell? ⟨w1.heap.size, 2, none⟩ = some (.slice q m cc)) ∧ W.cell? ⟨w.heap.size, 1, none⟩ = some (.int .u64 gas))) (by kernel_rfl) (HSS.out _ b0) (fun hHeld => ?_)
      refine wpAnyH_take (i := 0) (v := ?_) rfl (by kernel_rfl) (by kernel_rfl) (by kernel_rfl) (fun _ _ _ h => h) (.inl ⟨by rfl, ?_⟩) (by assumption) ?_
      rotate_left 1
      · intro w0 hSw
        go_simp <;> with_reducible rfl
      try simp only [Act.put, List.getElem_toArray, List.getElem_cons_zero, List.setIfInBounds_toArray, List.set_cons_zero, List.set_cons_succ]
      refine wpAnyH_take (i := 2) (v := ?_) rfl (by kernel_rfl) (by kernel_rfl) (by kernel_rfl) (fun _ _ _ h => h) (.inl ⟨by rfl, ?_⟩) (by assumption) ?_
      rotate_left 1
      · intro w0 hSw
        go_simp <;> with_reducible rfl
      try simp only [Act.put, List.getElem_toArray, List.getElem_cons_zero, List.getElem_cons_succ, List.setIfInBounds_toArray, List.set_cons_zero, List.set_cons_succ]
      refine wpAnyH_take (i := 3) (v := ?_) rfl (by kernel_rfl) (by kernel_rfl) (by kernel_rfl) (fun _ _ _ h => h) (.inl ⟨by rfl, ?_⟩) (by assumption) ?_
      rotate_left 1
      · intro w0 hSw
        obtain ⟨⟨z0, z1, z2⟩, z3⟩ := hSw
        go_simp <;> with_reducible rfl
      try simp only [Act.put, List.getElem_toArray, List.getElem_cons_zero, List.getElem_cons_succ, List.setIfInBounds_toArray, List.set_cons_zero, List.set_cons_succ]
      refine wpAnyH_take (i := 6) (v := ?_) rfl (by kernel_rfl) (by kernel_rfl) (by kernel_rfl) (fun _ _ _ h => h) (.inl ⟨by rfl, ?_⟩) (by assumption) ?_
      rotate_left 1
      · intro w0 hSw
        obtain ⟨⟨z0, z1, z2⟩, z3⟩ := hSw
        go_simp <;> with_reducible rfl
      try simp only [Act.put, List.getElem_toArray, List.getElem_cons_zero, List.getElem_cons_succ, List.setIfInBounds_toArray, List.set_cons_zero, List.set_cons_succ]
      refine wpAnyH_ready (rs := [1]) (by kernel_rfl) (by simp) ?_
      refine AllReadyH.cons rfl (fun K hK => ?_) AllReadyH.nil
      go_simp
      go_at_call 33
      refine (textRef_any _ _).mono ?_
      rintro e v4 ⟨rfl, hb4⟩
      have b4 : Below wz.heap.size wz v4 := b0.trans (hb4.mono b0.size)
      clear hb4
      refine hK.out _ _ (HSS.out _ b4) (fun hHeld => ?_)
      clear hK K
      try simp only [Act.put, List.getElem_toArray, List.getElem_cons_zero, List.getElem_cons_succ, List.setIfInBounds_toArray, List.set_cons_zero, List.set_cons_succ]
      refine wpAnyH_ready (rs := [4]) (by kernel_rfl) (by simp) ?_
      refine AllReadyH.cons rfl (fun K hK => ?_) AllReadyH.nil
      go_simp
      go_at_call 40
      refine (HNL.out _).mono ?_
      rintro e v5 ⟨rfl, hb5⟩
      have b5 : Below wz.heap.size wz v5 := b4.trans (hb5.mono b4.size)
      clear hb5
      refine hK.out _ _ (HSS.out _ b5) (fun hHeld => ?_)
      clear hK K
      try simp only [Act.put, List.getElem_toArray, List.getElem_cons_zero, List.getElem_cons_succ, List.setIfInBounds_toArray, List.set_cons_zero, List.set_cons_succ]
      refine wpAnyH_ready (rs := [5]) (by kernel_rfl) (by simp) ?_
      refine AllReadyH.cons rfl (fun K hK => ?_) AllReadyH.nil
      go_simp
      go_at_call 33
      refine (textRef_any _ _).mono ?_
      rintro e v6 ⟨rfl, hb6⟩
      have b6 : Below wz.heap.size wz v6 := b5.trans (hb6.mono b5.size)
      clear hb6
      refine hK.out _ _ (HSS.out _ b6) (fun hHeld => ?_)
      clear hK K
      try simp only [Act.put, List.getElem_toArray, List.getElem_cons_zero, List.getElem_cons_succ, List.setIfInBounds_toArray, List.set_cons_zero, List.set_cons_succ]
      refine wpAnyH_ready (rs := [7]) (by kernel_rfl) (by simp) ?_
      refine AllReadyH.cons rfl (fun K hK => ?_) AllReadyH.nil
      go_simp
      have hal : ∃ W, v6.alloc (.cells #[.bool false, .string ⟨#[1]⟩, .slice none 0 0, .bool false, .string ⟨(num gas).toArray⟩, .slice none 0 0, .bool true, .string ⟨#[]⟩, .slice q m cc] 51) = W := ⟨_, rfl⟩
      obtain ⟨v7, hal⟩ := hal
      have hb7 : Below v6.heap.size v6 v7 := by rw [← hal]; exact laid1 v6 _
      have b7 : Below wz.heap.size wz v7 := b6.trans (hb7.mono b6.size)
      have HR7 := Lib.hid (show RIn v7 w.heap.size (.slice (some ⟨v6.heap.size, 0, none⟩) 3 3) (rcptItem true gas ls).list from by
        rw [← hal]
        refine reads_new v6 w.heap.size 3 [(.mk false (goodL true) [], .slice none 0 0), (itN gas, .slice none 0 0), (itL (ls.map logItem), .slice q m cc)] rfl (by have := HBA.out; have := b6.size; omega) (fun q hq => ?_)
        simp only [List.mem_cons, List.not_mem_nil, or_false] at hq
        rcases hq with rfl | rfl | rfl
        · exact RIn.nil _ _
        · exact RIn.nil _ _
        · exact (HRZ.out.below b6).mono (by simp))
      rw [hal]
      clear hal hb7
      refine hK.out _ _ (HSS.out _ b7) (fun hHeld => ?_)
      clear hK K
      try simp only [Act.put, List.getElem_toArray, List.getElem_cons_zero, List.getElem_cons_succ, List.setIfInBounds_toArray, List.set_cons_zero, List.set_cons_succ]
      refine wpAnyH_ready (rs := [8]) (by kernel_rfl) (by simp) ?_
      refine AllReadyH.cons rfl (fun K hK => ?_) AllReadyH.nil
      go_simp
      go_at_call 39
      refine (listRef_any _ _ _ _).mono ?_
      rintro e v8 ⟨rfl, hb8⟩
      have b8 : Below wz.heap.size wz v8 := b7.trans (hb8.mono b7.size)
      have HR8 := Lib.hid (HR7.out.below hb8)
      clear hb8 HR7
      have hen := encodeRef_any (rcptItem true gas ls) (.slice (some ⟨v6.heap.size, 0, none⟩) 3 3) v8 HSM.out.1 HSM.out.2 HR8.out.reads
      unfold encodeV at hen
      rw [HE.out] at hen
      dsimp only at hen
      have HEN := Lib.hid hen
      clear hen
      refine hK.out _ _ (HSS.out _ b8) (fun hHeld => ?_)
      clear hK K
      try simp only [Act.put, List.getElem_toArray, List.getElem_cons_zero, List.getElem_cons_succ, List.setIfInBounds_toArray, List.set_cons_zero, List.set_cons_succ]
      refine wpAnyH_ready (rs := [9]) (by kernel_rfl) (by simp) ?_
      refine AllReadyH.cons rfl (fun K hK => ?_) AllReadyH.nil
      go_simp
      go_at_call 32
      refine (HEN.out).mono ?_
      rintro e v9 ⟨rfl, hb9⟩
      have b9 : Below wz.heap.size wz v9 := b8.trans (hb9.mono b8.size)
      clear hb9
      refine hK.out _ _ (HSS.out _ b9) (fun hHeld => ?_)
      clear hK K
      try simp only [Act.put, List.getElem_toArray, List.getElem_cons_zero, List.getElem_cons_succ, List.setIfInBounds_toArray, List.set_cons_zero, List.set_cons_succ]
      refine wpAnyH_take (i := 10) (v := ?_) rfl (by kernel_rfl) (by kernel_rfl) (by kernel_rfl) (fun _ _ _ h => h) (.inl ⟨by rfl, ?_⟩) (by assumption) ?_
      rotate_left 1
      · intro w0 hSw
        go_simp <;> with_reducible rfl
      try simp only [Act.put, List.getElem_toArray, List.getElem_cons_zero, List.getElem_cons_succ, List.setIfInBounds_toArray, List.set_cons_zero, List.set_cons_succ]
      refine wpAnyH_take (i := 11) (v := ?_) rfl (by kernel_rfl) (by kernel_rfl) (by kernel_rfl) (fun _ _ _ h => h) (.inl ⟨by rfl, ?_⟩) (by assumption) ?_
      rotate_left 1
      · intro w0 hSw
        go_simp <;> with_reducible rfl
      try simp only [Act.put, List.getElem_toArray, List.getElem_cons_zero, List.getElem_cons_succ, List.setIfInBounds_toArray, List.set_cons_zero, List.set_cons_succ]
      refine wpAnyH_take (i := 12) (v := ?_) rfl (by kernel_rfl) (by kernel_rfl) (by kernel_rfl) (fun _ _ _ h => h) (.inl ⟨by rfl, ?_⟩) (by assumption) ?_
      rotate_left 1
      · intro w0 hSw
        go_simp <;> with_reducible rfl
      try simp only [Act.put, List.getElem_toArray, List.getElem_cons_zero, List.getElem_cons_succ, List.setIfInBounds_toArray, List.set_cons_zero, List.set_cons_succ]
      refine wpAnyH_take (i := 13) (v := ?_) rfl (by kernel_rfl) (by kernel_rfl) (by kernel_rfl) (fun _ _ _ h => h) (.inl ⟨by rfl, ?_⟩) (by assumption) ?_
      rotate_left 1
      · intro w0 hSw
        go_simp <;> with_reducible rfl
      try simp only [Act.put, List.getElem_toArray, List.getElem_cons_zero, List.getElem_cons_succ, List.setIfInBounds_toArray, List.set_cons_zero, List.set_cons_succ]
      refine wpAnyH_done (by kernel_rfl) ?_ 0
      go_wp2_with fail
      go_ret2
      exact ⟨rfl, HBZ.out.trans (b9.mono HBZ.out.size)⟩
end Go.Proofs.YtmjblnhnadffmaaDoor
