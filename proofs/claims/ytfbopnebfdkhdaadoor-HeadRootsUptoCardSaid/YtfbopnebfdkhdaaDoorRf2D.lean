/- Contract of pharosref02.Sum. -/
import Derived.Test.YtfbopnebfdkhdaaDoorRf2C
import Derived.Test.YtfbopnebfdkhdaaDoorShaF
import Derived.Deep.RegionHeld3
namespace Go.Proofs.YtfbopnebfdkhdaaDoor
open Go.RowKit Go.Shelf Go.Lib
attribute [local go_sem] Oper.semAt_some

theorem Blocks.at {xs : List (List UInt8)} {l : List UInt8} (h : Blocks xs l) (k : Nat) (x : List UInt8) (hk : xs[k]? = some x) : 64 * k + 64 ≤ l.length ∧ ∀ j, j < 64 → l[64 * k + j]? = x[j]? := by
  induction xs generalizing l k with
  | nil => cases hk
  | cons y ys ih =>
    obtain ⟨h1, h2⟩ := h
    have hy := h2 y (by simp)
    rw [List.flatten_cons] at h1
    cases k with
    | zero =>
      cases hk
      rw [← h1]
      refine ⟨by rw [List.length_append]; omega, fun j hj => ?_⟩
      rw [Nat.mul_zero, Nat.zero_add, List.getElem?_append_left (by omega)]
    | succ k =>
      obtain ⟨h3, h4⟩ := ih (l := ys.flatten) ⟨rfl, fun z hz => h2 z (by simp [hz])⟩ k hk
      rw [← h1]
      refine ⟨by rw [List.length_append]; omega, fun j hj => ?_⟩
      rw [List.getElem?_append_right (by omega), ← h4 j hj]
      congr 1; omega
theorem Blocks.length {xs : List (List UInt8)} {l : List UInt8} (h : Blocks xs l) : l.length = 64 * xs.length := by
  induction xs generalizing l with
  | nil => rw [← h.1]; rfl
  | cons y ys ih =>
    have := ih (l := ys.flatten) ⟨rfl, fun z hz => h.2 z (by simp [hz])⟩
    have hy := h.2 y (by simp)
    rw [← h.1, List.flatten_cons, List.length_append, List.length_cons]; omega
theorem pad_blocks (s : List UInt8) : Blocks (chopN ((pad s).length / 64) (pad s)) (pad s) := chopN_blocks _ _ (by have := pad_len s; omega)
theorem pad_bound (s : List UInt8) : (pad s).length ≤ s.length + 136 := by
  unfold pad padTail
  rw [List.length_append, List.length_cons, List.length_append, List.length_replicate, be_length]
  omega
theorem pad_pos (s : List UInt8) : 0 < (pad s).length := by
  unfold pad padTail
  rw [List.length_append, List.length_cons]; omega
theorem u8of (x : Int) (b : UInt8) (h : x % 256 = (b.toNat : Int)) : IntKind.u8.wrap x = (b.toNat : Int) := (IntKind.wrap_u8 _).trans h

set_option maxRecDepth 100000 in
set_option maxHeartbeats 3200000 in
theorem rsum_any (s : ByteArray) (w : World) (hs : s.size ≤ 1099511627776) : Calls Tryd.prog 36 #[.string s] w fun e w' => e = .returned (.string ⟨(shaOf s.data.toList).toArray⟩) ∧ Below w.heap.size w w' := by
  have hst : Row32 (w.alloc (.cells #[.int .u32 1779033703, .int .u32 3144134277, .int .u32 1013904242, .int .u32 2773480762, .int .u32 1359893119, .int .u32 2600822924, .int .u32 528734635, .int .u32 1541459225] 113)) w.heap.size St.start.list := Row32.new w St.start.list 113
  have hX := pad_blocks s.data.toList
  have hP := pad_bound s.data.toList
  have hP0 := pad_pos s.data.toList
  have hpd := padded_any s (w.alloc (.cells #[.int .u32 1779033703, .int .u32 3144134277, .int .u32 1013904242, .int .u32 2773480762, .int .u32 1359893119, .int .u32 2600822924, .int .u32 528734635, .int .u32 1541459225] 113)) hs
  have hsum : sumOf (chopN ((pad s.data.toList).length / 64) (pad s.data.toList)) = shaOf s.data.toList := rfl
  obtain ⟨R, hR⟩ : ∃ R, shaOf s.data.toList = R := ⟨_, rfl⟩
  obtain ⟨xs, hxs⟩ : ∃ xs, chopN ((pad s.data.toList).length / 64) (pad s.data.toList) = xs := ⟨_, rfl⟩
  rw [hxs] at hX hsum
  rw [hR] at hsum ⊢
  obtain ⟨p, hp⟩ : ∃ p, pad s.data.toList = p := ⟨_, rfl⟩
  rw [hp] at hX hpd hP hP0
  have hP' : p.length ≤ 1099511627776 + 136 := by
    have e : s.data.toList.length = s.size := rfl
    omega
  have HST := Lib.hid hst
  have HX := Lib.hid hX
  have HP := Lib.hid hpd
  have HS := Lib.hid hsum
  clear hst hX hpd hsum hR hxs hp hP hs
  go_enter Tryd.func36, Tryd.ntmps36
  go_wp2_with fail
  refine HP.out.mono ?_
  rintro e w1 ⟨v, rfl, hO, hb⟩
  rw [World.size_alloc] at hO hb
  have hs1 := hb.size
  have HR1 := Lib.hid (HST.out.below (by rw [World.size_alloc]; exact hb) (by decide))
  have HB1 := Lib.hid (((Below.refl w.heap.size w).alloc (Nat.le_refl _) _).trans (hb.mono (by omega)))
  obtain ⟨g, cap, hv, hg0, hg1, hg2, hc, hf⟩ : ∃ g cap, v = .slice (some ⟨g, 0, none⟩) p.length cap ∧ w.heap.size + 1 ≤ g ∧ g < w1.heap.size ∧ p.length ≤ cap ∧ (∀ j u, (Lib.byteCells p)[j]? = some u → w1.cell? ⟨g, j, none⟩ = some u) ∧ True := by
    rcases hO with ⟨rfl, rfl⟩ | ⟨g, cap, h1, h2, h3, h4, h5, _⟩
    · exact absurd hP0 (by simp)
    · exact ⟨g, cap, h1, h2, h3, h4, h5, trivial⟩
  subst hv
  have hc1 : Cells8 w1 g 0 p := fun j x hj => by rw [Nat.zero_add]; exact hc j _ (by simp only [Lib.byteCells, List.getElem?_map, hj]; rfl)
  have HC1 := Lib.hid hc1
  obtain ⟨n, hn⟩ : ∃ n, p.length = n := ⟨_, rfl⟩
  have hnx := HX.out.length
  rw [hn] at hnx hg2 hP' ⊢
  have HN := Lib.hid hn
  have HNX := Lib.hid hnx
  clear hc hO hb hc1 hf hP0 hn hnx
  go_wp2_with fail
  go_loopw [5] (fun i wr => ∃ k : Nat, k ≤ xs.length ∧ i = .int .i64 ((64 * k : Nat) : Int) ∧ Aside (Row32 wr w.heap.size ((xs.take k).foldl St.take St.start).list) ∧ Aside (Cells8 wr g 0 p) ∧ Aside (Below w.heap.size w wr)) (fun i _ => n - (RowKit.intOf i).toNat)
  case atStart => exact ⟨0, Nat.zero_le _, rfl, HR1.out, HC1.out, HB1.out⟩
  case round =>
    clear HR1 HC1 HB1
    obtain ⟨k, hk, rfl, HR, HC, HB⟩ := hrel
    by_cases hlt : k < xs.length
    · obtain ⟨blk, hblk⟩ : ∃ b, xs[k]? = some b := ⟨_, List.getElem?_eq_getElem hlt⟩
      obtain ⟨hat0, hat⟩ := HX.out.at k blk hblk
      have h64 := HX.out.2 blk (List.mem_of_getElem? hblk)
      rw [HN.out] at hat0
      have hcb : Cells8 wr g (64 * k) blk := fun j x hj => by
        have hj64 : j < 64 := by have := (List.getElem?_eq_some_iff.1 hj).1; omega
        have := HC.out (64 * k + j) x ((hat j hj64).trans hj)
        rwa [Nat.zero_add] at this
      have hfold : (xs.take (k + 1)).foldl St.take St.start = ((xs.take k).foldl St.take St.start).take blk := by
        rw [List.take_add_one, hblk, List.foldl_append]; rfl
      have hr := HR.out
      obtain ⟨st, hst⟩ : ∃ st, (xs.take k).foldl St.take St.start = st := ⟨_, rfl⟩
      rw [hst] at hfold hr
      obtain ⟨q, hq⟩ : ∃ q, st.take blk = q := ⟨_, rfl⟩
      rw [hq] at hfold
      obtain ⟨m, hm⟩ : ∃ m, 64 * k = m := ⟨_, rfl⟩
      rw [hm] at hcb hat0 ⊢
      have hm2 : 64 * (k + 1) = m + 64 := by omega
      have HM := Lib.hid hm
      have HM2 := Lib.hid hm2
      have HF := Lib.hid hfold
      have HQ := Lib.hid hq
      have H64 := Lib.hid h64
      have HCB := Lib.hid hcb
      have HR' := Lib.hid hr
      have g1 : (0 : Int) ≤ m := by omega
      have g2 : (m : Int) < n := by omega
      have g3 : IntKind.i64.wrap ((m : Int) + 64) = (m : Int) + 64 := IntWalk.i64_in _ (by omega)
      have g4 : (0 : Int) ≤ (m : Int) + 64 := by omega
      have g5 : (m : Int) ≤ (m : Int) + 64 := by omega
      have g6 : (m : Int) + 64 ≤ cap := by omega
      have g7 : ((m : Int) + 64).toNat = m + 64 := by omega
      have g8 : m < cap := by omega
      have c0 := hr.1 0 (by simp [St.list])
      have c1 := hr.1 1 (by simp [St.list])
      have c2 := hr.1 2 (by simp [St.list])
      have c3 := hr.1 3 (by simp [St.list])
      have c4 := hr.1 4 (by simp [St.list])
      have c5 := hr.1 5 (by simp [St.list])
      have c6 := hr.1 6 (by simp [St.list])
      have c7 := hr.1 7 (by simp [St.list])
      simp only [St.list, List.getElem_cons_zero, List.getElem_cons_succ] at c0 c1 c2 c3 c4 c5 c6 c7
      clear hr hat hblk hst hfold hq hm hm2 h64 hcb HR
      go_wp2_with fail
      go_still_tail 6, (by kernel_rfl)
      go_wp2_with fail
      refine (rtake_any g m (cap - m) blk st wr.drew H64.out HCB.out).mono ?_
      rintro e w3 ⟨rfl, hb3⟩
      rw [HQ.out]
      have hb3' : Below wr.heap.size wr w3 := (Below.refl _ _).drew.trans hb3
      have HR3 := Lib.hid (HR'.out.below hb3' (by simp [St.list]))
      have HC3 := Lib.hid (HC.out.below hb3')
      have HB3 := Lib.hid (HB.out.trans (hb3'.mono HB.out.size))
      clear hb3 hb3' HC HB HCB HR' c0 c1 c2 c3 c4 c5 c6 c7 g1 g2 g3 g4 g5 g6 g7 g8
      go_wp2_with (first | (with_reducible refine wpList_haltStore 113 _ _ rfl ?_))
      refine Halt.mk ?_
      refine wpList_store32 rfl _ _ _ rfl w.heap.size q.list st.list rfl rfl HR3.out rfl info8 ?_
      intro w4 hR4 hg4
      have HR4 := Lib.hid hR4
      have HC4 := Lib.hid (show Cells8 w4 g 0 p from fun j x hj => (World.cell?_of_block (a := ⟨g, 0 + j, none⟩) (hg4.block g (World.block_lt_of_cell? w3 _ (HC3.out j x hj)) (fun e => by have := Option.some.inj e; omega))).trans (HC3.out j x hj))
      have HB4 := Lib.hid (HB3.out.grown hg4 HB3.out.size (fun r e => by cases e; exact Nat.le_refl _))
      clear hR4 hg4 HR3 HC3 HB3
      have w9 : IntKind.i64.wrap ((m : Int) + 64) = (m : Int) + 64 := IntWalk.i64_in _ (by omega)
      go_wp2
      go_roundw
      case rel => exact ⟨k + 1, by omega, (by rw [HM2.out]; go_num), (by rw [HF.out]; exact HR4.out), HC4.out, HB4.out⟩
      case measure => simp [RowKit.intOf]; omega
    · obtain rfl : k = xs.length := by omega
      have hr := HR.out
      rw [List.take_of_length_le (Nat.le_refl _)] at hr
      have hs := HS.out
      unfold sumOf at hs
      have hnx := HNX.out
      obtain ⟨fi, hfi⟩ : ∃ fi, xs.foldl St.take St.start = fi := ⟨_, rfl⟩
      rw [hfi] at hr hs
      rw [← hnx]
      have hbl := St.list_length fi
      have hts : ∀ k x, fi.list[k]? = some x → (fi.list.take (k + 1)).flatMap bytes32 = (fi.list.take k).flatMap bytes32 ++ bytes32 x := fun k x hx => by
        rw [List.take_add_one, hx, List.flatMap_append]; simp
      have hfl : ∀ k, k ≤ 8 → ((fi.list.take k).flatMap bytes32).length = 4 * k := fun k hk => by
        rcases (by omega : k = 0 ∨ k = 1 ∨ k = 2 ∨ k = 3 ∨ k = 4 ∨ k = 5 ∨ k = 6 ∨ k = 7 ∨ k = 8) with rfl | rfl | rfl | rfl | rfl | rfl | rfl | rfl | rfl <;> rfl
      obtain ⟨L, hL⟩ : ∃ L, fi.list = L := ⟨_, rfl⟩
      rw [hL] at hr hs hbl hts hfl
      have HR2 := Lib.hid hr
      have HS2 := Lib.hid hs
      have HL8 := Lib.hid hbl
      have HTS := Lib.hid hts
      have HFL := Lib.hid hfl
      clear hr hs hbl hts hfl hL hfi hnx HR HC hlt hk HX HS HNX HN HP HST hP' hg0 hg1 hg2 hs1
      go_wp2_with fail
      go_loopw [6, 7] (fun v i wr => ∃ k : Nat, k ≤ 8 ∧ i = .int .i64 k ∧ Aside (OwnC (w.heap.size + 1) wr v ((L.take k).flatMap bytes32)) ∧ Aside (Row32 wr w.heap.size L) ∧ Aside (Below w.heap.size w wr)) (fun _ i _ => 8 - (RowKit.intOf i).toNat)
      case atStart => exact ⟨0, Nat.zero_le _, rfl, OwnC.nil _ _, HR2.out, HB.out⟩
      case round =>
        clear HR2 HB
        obtain ⟨k, hk, rfl, HO, HR, HB⟩ := hrel
        have hz : w.heap.size + 1 ≤ wr.heap.size := block_lt_of_cell (HR.out.1 0 (by rw [HL8.out]; omega))
        by_cases hlt : k < 8
        · obtain ⟨x, hx⟩ : ∃ x, L[k]? = some x := ⟨_, List.getElem?_eq_getElem (by rw [HL8.out]; exact hlt)⟩
          have c0 : wr.cell? ⟨w.heap.size, k, none⟩ = some (.int .u32 (wv x)) := by
            obtain ⟨h1, h2⟩ := List.getElem?_eq_some_iff.1 hx
            rw [← h2]; exact HR.out.1 k h1
          have hsn := HTS.out k x hx
          have hfl := HFL.out k hk
          obtain ⟨U, hU⟩ : ∃ U, (L.take k).flatMap bytes32 = U := ⟨_, rfl⟩
          rw [hU] at hsn hfl
          have ho := HO.out
          rw [hU] at ho
          obtain ⟨pv, cv, hv⟩ := ho.form
          rw [hfl] at hv
          have HO' := Lib.hid ho
          have HSN := Lib.hid hsn
          have HFK := Lib.hid hfl
          clear ho hsn hU hx hfl HO
          subst hv
          have b3 := u8of _ _ (wbyte24 x)
          have b2 := u8of _ _ (wbyte16 x)
          have b1 := u8of _ _ (wbyte8 x)
          have b0 := u8of _ _ (wbyte0 x)
          have g1 : (0 : Int) ≤ k := by omega
          have g2 : (k : Int) < 8 := by omega
          obtain ⟨y3, h3⟩ : ∃ y, (x >>> 24).toUInt8 = y := ⟨_, rfl⟩
          obtain ⟨y2, h2⟩ : ∃ y, (x >>> 16).toUInt8 = y := ⟨_, rfl⟩
          obtain ⟨y1, h1⟩ : ∃ y, (x >>> 8).toUInt8 = y := ⟨_, rfl⟩
          obtain ⟨y0, h0⟩ : ∃ y, x.toUInt8 = y := ⟨_, rfl⟩
          have hb : bytes32 x = [y3, y2, y1, y0] := by rw [← h3, ← h2, ← h1, ← h0]; rfl
          rw [h3] at b3
          rw [h2] at b2
          rw [h1] at b1
          rw [h0] at b0
          have HBY := Lib.hid hb
          clear h3 h2 h1 h0 hb
          go_wp2_with fail
          have HO2 := Lib.hid (HO'.out.kept (w' := wr.drew) (grown_drew (grownBy_refl wr none)) (by cases hv : (Value.slice pv (4 * k) cv).ownBlock <;> simp))
          have hz2 : w.heap.size + 1 ≤ wr.drew.heap.size := hz
          have HR2 := Lib.hid (Row32.kept (W' := wr.drew) HR.out rfl)
          have HB2 := Lib.hid HB.out.drew
          have HS := Lib.hid (fun W' (hb : Below (w.heap.size + 1) wr.drew W') => (show W'.cell? ⟨w.heap.size, k, none⟩ = some (.int .u32 (wv x)) from (hb.cell (p := ⟨w.heap.size, k, none⟩) (Nat.lt_succ_self _)).trans c0))
          have b0' : Below (w.heap.size + 1) wr.drew wr.drew := Below.refl _ _
          have b1' : Below (w.heap.size + 1) wr.drew (wr.drew.alloc (.cells #[.int .u8 y3.toNat, .int .u8 y2.toNat, .int .u8 y1.toNat, .int .u8 y0.toNat] 5)) := b0'.alloc hz2 _
          clear HO' HR HB c0
          go_region_held3 (fun W => W.cell? ⟨w.heap.size, k, none⟩ = some (.int .u32 (wv x))) (first | exact HS.out _ b0' | exact HS.out _ b1' | exact HS.out _ b2') (first | (refine step_appendC rfl _ _ 62 rfl (w.heap.size + 1) 5 Tryd.underlying62 infoU8 _ U rfl (HO2.out.alloc _) ⟨wr.drew.heap.size, 0, none⟩ 4 4 [y3, y2, y1, y0] rfl rfl (cells_new_at rfl (Lib.byteCells [y3, y2, y1, y0]) 5) (by rw [HFK.out]; omega) (by simp; omega) ?_; intro v3 w6 ho6 hg6; have b2' := b1'.grown hg6 (by simp; omega) (fun r e => (HO2.out.lt r e).1)))
          have b0 : True := trivial
          have hb6 : Below w.heap.size w w6 := (HB2.out.alloc (by omega) _).grown hg6 (by simp; omega) (fun k hk => by have := (HO2.out.lt k hk).1; omega)
          rw [← HBY.out, ← HSN.out] at ho6
          have HR6 := Lib.hid (Row32.kept (W' := w6) HR2.out ((hg6.block w.heap.size (by simp; omega) (fun e => by have := (HO2.out.lt _ e.symm).1; omega)).trans (Below.heap_alloc _ _ _ (by omega))))
          have HO6 := Lib.hid ho6
          have HB6 := Lib.hid hb6
          clear ho6 hg6 hb6 HO2 HR2 HB2
          go_wp2
          go_roundw
          case rel => exact ⟨k + 1, by omega, by go_num, HO6.out, HR6.out, HB6.out⟩
          case measure => simp [RowKit.intOf]; omega
        · obtain rfl : k = 8 := by omega
          rw [show ((8 : Nat) : Int) = (8 : Int) from rfl]
          have ho := HO.out
          rw [List.take_of_length_le (by rw [HL8.out]; omega), HS2.out] at ho
          have hstr := ho.str (P := Tryd.prog) (src := 62) (dst := 9) Tryd.underlying62 Tryd.underlying5 Tryd.underlying9
          clear HO HR
          go_wp2
          go_ret
          exact ⟨rfl, HB.out⟩
end Go.Proofs.YtfbopnebfdkhdaaDoor
