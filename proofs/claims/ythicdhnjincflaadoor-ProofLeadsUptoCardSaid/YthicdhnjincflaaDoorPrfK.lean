/- proof.Lead gives what leadP says. -/
import Derived.Test.YthicdhnjincflaaDoorPrfJ
import Derived.Test.YthicdhnjincflaaDoorPshB
namespace Go.Proofs.YthicdhnjincflaaDoor
open Go.RowKit Go.Shelf Go.Lib
attribute [local go_sem] Oper.semAt_some

set_option maxRecDepth 100000 in
set_option maxHeartbeats 3200000 in
/-- does a text stand in the one ahead of it? -/
theorem refers_any (ahead s kk root : List UInt8) (k m c bk o gr gn gp : Nat) (W : World) (hk0 : keccakL s = kk) (hr : W.cell? ⟨gr, 0, none⟩ = some (.string ⟨root.toArray⟩)) (hn : W.cell? ⟨gn, 0, none⟩ = some (.int .i64 k))
    (hp : W.cell? ⟨gp, 0, none⟩ = some (.slice (some ⟨bk, o, none⟩) m c)) (hkm : k < m) (hmN : m ≤ 1099511627776) (hs : W.cell? ⟨bk, o + k, none⟩ = some (.string ⟨s.toArray⟩)) (ha : (k = 0 ∧ ahead = root) ∨ ∃ j, k = j + 1 ∧ W.cell? ⟨bk, o + j, none⟩ = some (.string ⟨ahead.toArray⟩))
    (hls : s.length ≤ 65536) (hla : ahead.length ≤ 65536) (hK : KecT W) (hM : ∃ m, W.cell? ⟨3, 0, none⟩ = some (.int .i64 m)) :
    Calls Tryd.prog 47 #[.pointer (some ⟨gr, 0, none⟩), .pointer (some ⟨gn, 0, none⟩), .pointer (some ⟨gp, 0, none⟩)] W fun e w' => e = .returned (.bool (Lib.contains ahead kk)) ∧ Below W.heap.size W w' := by
  have hb := laid1 W (.cells #[.string ⟨s.toArray⟩] 9)
  have HS := Lib.hid (kecOne_l hk0 W.heap.size 0 _ (HasCells.new W [.string ⟨s.toArray⟩] 9 |>.cell (j := 0) rfl) (by omega) (hK.belowP hb))
  have HB := Lib.hid hb
  have HC : Hid (∀ w', Below W.heap.size W w' → Calls Tryd.prog 48 #[.string ⟨ahead.toArray⟩, .string ⟨kk.toArray⟩] w' fun e w2 => e = .returned (.bool (Lib.contains ahead kk)) ∧ w2 = w') := Lib.hid fun w' hb' => by
    obtain ⟨mm, hmm⟩ := hM
    exact Tryd.strings_Contains ⟨ahead.toArray⟩ ⟨kk.toArray⟩ mm w' (by show ahead.length < _; omega) ((World.cell?_of_block (hb'.block _ (World.block_lt_of_cell? W _ hmm))).trans hmm)
  have g1 : (0 : Int) ≤ (k : Int) := by omega
  have g2 : (k : Int) < (m : Int) := by omega
  clear hb hk0 hK hM hls hla
  have hs0 : k = 0 → W.cell? ⟨bk, o, none⟩ = some (.string ⟨s.toArray⟩) := fun e => by subst e; exact hs
  rcases ha with ⟨rfl, rfl⟩ | ⟨j, rfl, ha⟩
  · have hs1 := hs0 rfl
    clear hs0
    go_enter Tryd.func47, Tryd.ntmps47
    go_wp2_with fail
    refine HS.out.mono ?_
    rintro e w1 ⟨rfl, hb1⟩
    have HB1 := Lib.hid (HB.out.trans (hb1.mono HB.out.size))
    clear hb1
    go_wp2_with fail
    refine (HC.out _ HB1.out).mono ?_
    rintro e w2 ⟨rfl, rfl⟩
    go_wp2_with fail
    go_ret
    exact ⟨rfl, HB1.out⟩
  · clear hs0
    have i1 : ((j + 1 : Nat) : Int) - 1 = (j : Int) := by omega
    have i9 : wrap64 (j : Int) = (j : Int) := by unfold wrap64; omega
    have hs2 : W.cell? ⟨bk, o + (j + 1), none⟩ = some (.string ⟨s.toArray⟩) := hs
    have i2 : (0 : Int) ≤ (j : Int) := by omega
    have i3 : (j : Int) < (m : Int) := by omega
    have i4 : (0 : Int) < ((j + 1 : Nat) : Int) := by omega
    have i5 : (j : Int) + 1 - 1 = (j : Int) := by omega
    have i6 : (0 : Int) < (j : Int) + 1 := by omega
    have i7 : (0 : Int) ≤ (j : Int) + 1 := by omega
    have i8 : (j : Int) + 1 < (m : Int) := by omega
    go_enter Tryd.func47, Tryd.ntmps47
    go_wp2_with fail
    refine HS.out.mono ?_
    rintro e w1 ⟨rfl, hb1⟩
    have HB1 := Lib.hid (HB.out.trans (hb1.mono HB.out.size))
    clear hb1
    go_wp2_with fail
    refine (HC.out _ HB1.out).mono ?_
    rintro e w2 ⟨rfl, rfl⟩
    go_wp2_with fail
    go_ret
    exact ⟨rfl, HB1.out⟩
/-- the text ahead of one -/
def aheadL (root : List UInt8) (xs : List (List UInt8)) (k : Nat) : List UInt8 := if k = 0 then root else xs.getD (k - 1) []
theorem lead_round {root s : List UInt8} {xs : List (List UInt8)} {k : Nat} (hs : xs[k]? = some s) (h : leadL keccakL root xs = xs.take k ++ leadL keccakL (aheadL root xs k) (xs.drop k)) :
    (Lib.contains (aheadL root xs k) (keccakL s) = true → leadL keccakL root xs = xs.take (k + 1) ++ leadL keccakL (aheadL root xs (k + 1)) (xs.drop (k + 1))) ∧ (Lib.contains (aheadL root xs k) (keccakL s) = false → leadL keccakL root xs = xs.take k) := by
  obtain ⟨hk, hs'⟩ := List.getElem?_eq_some_iff.1 hs
  have hd : xs.drop k = s :: xs.drop (k + 1) := by rw [List.drop_eq_getElem_cons hk, hs']
  rw [hd] at h
  refine ⟨fun hc => ?_, fun hc => ?_⟩
  · rw [h, show leadL keccakL (aheadL root xs k) (s :: xs.drop (k + 1)) = (if Lib.contains (aheadL root xs k) (keccakL s) then s :: leadL keccakL s (xs.drop (k + 1)) else []) from rfl, if_pos hc, List.take_add_one, hs]
    have ha : aheadL root xs (k + 1) = s := by
      unfold aheadL
      rw [if_neg (by omega), Nat.add_sub_cancel, List.getD_eq_getElem?_getD, hs]
      rfl
    rw [ha]
    simp
  · rw [h, show leadL keccakL (aheadL root xs k) (s :: xs.drop (k + 1)) = (if Lib.contains (aheadL root xs k) (keccakL s) then s :: leadL keccakL s (xs.drop (k + 1)) else []) from rfl, if_neg (by rw [hc]; simp), List.append_nil]
theorem lead_end {root : List UInt8} {xs : List (List UInt8)} {k : Nat} (hk : k = xs.length) (h : leadL keccakL root xs = xs.take k ++ leadL keccakL (aheadL root xs k) (xs.drop k)) : leadL keccakL root xs = xs.take k := by
  rw [h, List.drop_of_length_le (by omega)]
  unfold leadL
  rw [List.append_nil]
/-- what stands between two rounds of Lead -/
def RoundL (gr gp gn bk c : Nat) (root : List UInt8) (xs : List (List UInt8)) (gg : Nat) (wr : World) : Prop :=
  ∃ k : Nat, k ≤ xs.length ∧ xs.length - k ≤ gg ∧ wr.cell? ⟨gr, 0, none⟩ = some (.string ⟨root.toArray⟩) ∧ wr.cell? ⟨gp, 0, none⟩ = some (.slice (some ⟨bk, 0, none⟩) xs.length c) ∧ HasCells wr gn [.int .i64 k] 3 ∧
    leadL keccakL root xs = xs.take k ++ leadL keccakL (aheadL root xs k) (xs.drop k)
set_option maxRecDepth 100000 in
set_option maxHeartbeats 6400000 in
theorem lead_some_any (root : List UInt8) (xs : List (List UInt8)) (bk c : Nat) (w : World) (hv : OwnS 0 w (.slice (some ⟨bk, 0, none⟩) xs.length c) (xs.map bt)) (hN : xs.length ≤ 1099511627775) (hK : KecT w) (hM : ∃ m, w.cell? ⟨3, 0, none⟩ = some (.int .i64 m)) :
    Calls Tryd.prog 22 #[.string ⟨root.toArray⟩, .slice (some ⟨bk, 0, none⟩) xs.length c] w (TextsR w (leadP keccakL root xs).1 (leadP keccakL root xs).2) := by
  have hat0 : ∀ (j : Nat) (t : List UInt8), xs[j]? = some t → bk < w.heap.size ∧ w.cell? ⟨bk, j, none⟩ = some (.string ⟨t.toArray⟩) := fun j t ht => by
    have h1 : (xs.map bt)[j]? = some (bt t) := by rw [List.getElem?_map, ht]; rfl
    obtain ⟨p9, c9, hv9, _, h9⟩ := hv.strs
    rw [List.length_map] at hv9
    cases hv9
    rcases h9 with h9 | ⟨bk9, o9, h91, h92, h93⟩
    · rw [h9] at h1; cases h1
    · cases h91
      have h10 := h93 j _ h1
      rw [Nat.zero_add] at h10
      exact ⟨h92, h10⟩
  have HAT := Lib.hid hat0
  clear hat0
  obtain ⟨m, hm⟩ : ∃ m, xs.length = m := ⟨_, rfl⟩
  have hb2 : Below w.heap.size w ((w.alloc (.cells #[.string ⟨root.toArray⟩] 9)).alloc (.cells #[.slice (some ⟨bk, 0, none⟩) m c] 23)) := ((Below.refl _ _).alloc (Nat.le_refl _) _).alloc (by simp) _
  rw [hm] at hv ⊢
  have hf := fits_any root xs (.slice (some ⟨bk, 0, none⟩) m c) _ (hv.strs.below hb2) (by omega)
  have hc0 : ((w.alloc (.cells #[.string ⟨root.toArray⟩] 9)).alloc (.cells #[.slice (some ⟨bk, 0, none⟩) m c] 23)).cell? ⟨w.heap.size, 0, none⟩ = some (.string ⟨root.toArray⟩) := ((HasCells.new w [.string ⟨root.toArray⟩] 9).alloc _).cell (j := 0) rfl
  have hc1 : ((w.alloc (.cells #[.string ⟨root.toArray⟩] 9)).alloc (.cells #[.slice (some ⟨bk, 0, none⟩) m c] 23)).cell? ⟨w.heap.size + 1, 0, none⟩ = some (.slice (some ⟨bk, 0, none⟩) m c) := by
    simp
  unfold leadP
  obtain ⟨sz, hsz⟩ : ∃ b, sizesP root xs = b := ⟨_, rfl⟩
  rw [hsz] at hf ⊢
  have HF := Lib.hid hf
  have HB := Lib.hid hb2
  have HV := Lib.hid hv
  have HM := Lib.hid hm
  have HK := Lib.hid hK
  have HML := Lib.hid hM
  have HSZ := Lib.hid hsz
  cases sz with
  | false =>
    rw [if_neg (by simp)]
    clear hf hb2 hv hm hsz hK hM
    go_enter Tryd.func22, Tryd.ntmps22
    go_wp2_with fail
    refine HF.out.mono ?_
    rintro e w1 ⟨rfl, rfl⟩
    go_wp2_with fail
    go_ret2
    exact ⟨_, _, rfl, OwnS.nil _ _, HB.out⟩
  | true =>
    rw [if_pos rfl]
    obtain ⟨R, hR⟩ : ∃ R, leadL keccakL root xs = R := ⟨_, rfl⟩
    rw [hR]
    have HR := Lib.hid hR
    clear hf hb2 hv hm hsz hR hK hM
    go_enter Tryd.func22, Tryd.ntmps22
    go_wp2_with fail
    refine HF.out.mono ?_
    rintro e w1 ⟨rfl, rfl⟩
    go_wp2_with fail
    have hgr := ((HasCells.new w [.string ⟨root.toArray⟩] 9).alloc (.cells #[.slice (some ⟨bk, 0, none⟩) m c] 23)).alloc (.cells #[.int .i64 0] 3)
    have hgp := (HasCells.new (w.alloc (.cells #[.string ⟨root.toArray⟩] 9)) [.slice (some ⟨bk, 0, none⟩) m c] 23).alloc (.cells #[.int .i64 0] 3)
    have hgn := HasCells.new ((w.alloc (.cells #[.string ⟨root.toArray⟩] 9)).alloc (.cells #[.slice (some ⟨bk, 0, none⟩) m c] 23)) [.int .i64 0] 3
    simp only [World.size_alloc] at hgn hgp
    have hrl : RoundL w.heap.size (w.heap.size + 1) (w.heap.size + 1 + 1) bk c root xs m (((w.alloc (.cells #[.string ⟨root.toArray⟩] 9)).alloc (.cells #[.slice (some ⟨bk, 0, none⟩) m c] 23)).alloc (.cells #[.int .i64 0] 3)) :=
      ⟨0, Nat.zero_le _, by rw [HM.out]; omega, hgr.cell (j := 0) rfl, by rw [HM.out]; exact hgp.cell (j := 0) rfl, hgn, rfl⟩
    have HRL := Lib.hid hrl
    have HB3 := Lib.hid (HB.out.alloc HB.out.size (.cells #[.int .i64 0] 3))
    clear hgr hgp hgn hrl hc0 hc1
    go_loopg [] m (fun gg wr => Aside (RoundL w.heap.size (w.heap.size + 1) (w.heap.size + 1 + 1) bk c root xs gg wr) ∧ Aside (Below w.heap.size w wr))
    case atStart => exact ⟨HRL.out, HB3.out⟩
    case round =>
      clear HRL HB3
      obtain ⟨⟨k, hk, hgk, c0, c1, hn1, hlead⟩, HBR⟩ := hrel
      rw [HM.out] at hk hgk c1
      have c2 := hn1.cell (j := 0) rfl
      have fz := hn1.frozen 0
      have s2 := hn1.lt
      have s1 : w.heap.size + 1 < wr.heap.size := by omega
      have HN1 := Lib.hid hn1
      have HLD := Lib.hid hlead
      have g1 : (0 : Int) ≤ (k : Int) := by omega
      have gkc : (k : Int) ≤ (c : Int) := by have := HV.out.cap; rw [List.length_map, HM.out] at this; omega
      clear hn1 hlead
      by_cases hlt : k < m
      · obtain ⟨s, hs⟩ : ∃ s, xs[k]? = some s := ⟨_, List.getElem?_eq_getElem (by rw [HM.out]; exact hlt)⟩
        have g2 : (k : Int) < (m : Int) := by omega
        have hz := HSZ.out
        unfold sizesP at hz
        simp only [Bool.and_eq_true, List.all_eq_true, decide_eq_true_eq] at hz
        have hat : ∀ (j : Nat) (t : List UInt8), xs[j]? = some t → wr.cell? ⟨bk, j, none⟩ = some (.string ⟨t.toArray⟩) := fun j t ht => (HBR.out.cell (p := ⟨bk, j, none⟩) (HAT.out j t ht).1).trans (HAT.out j t ht).2
        have hl65 : ∀ (j : Nat) (t : List UInt8), xs[j]? = some t → t.length ≤ 65536 := fun j t ht => hz.1 t (List.mem_of_getElem? ht)
        obtain ⟨kk, hkk⟩ : ∃ x, keccakL s = x := ⟨_, rfl⟩
        obtain ⟨ahd, hah⟩ : ∃ x, aheadL root xs k = x := ⟨_, rfl⟩
        have hcase : (k = 0 ∧ ahd = root) ∨ ∃ j, k = j + 1 ∧ xs[j]? = some ahd := by
          unfold aheadL at hah
          by_cases h0 : k = 0
          · rw [if_pos h0] at hah; exact .inl ⟨h0, hah.symm⟩
          · rw [if_neg h0] at hah
            refine .inr ⟨k - 1, by omega, ?_⟩
            have hlt2 : k - 1 < xs.length := by rw [HM.out]; omega
            rw [← hah, List.getD_eq_getElem?_getD, List.getElem?_eq_getElem hlt2]
            rfl
        have hla : ahd.length ≤ 65536 := by
          rcases hcase with ⟨_, rfl⟩ | ⟨j, _, h⟩
          · omega
          · exact hl65 j _ h
        have hcd := refers_any ahd s kk root k m c bk 0 w.heap.size (w.heap.size + 1 + 1) (w.heap.size + 1) wr hkk c0 c2 c1 hlt (by have := HM.out; omega) (by rw [Nat.zero_add]; exact hat k s hs) (by
          rcases hcase with h | ⟨j, h1, h2⟩
          · exact .inl h
          · exact .inr ⟨j, h1, by rw [Nat.zero_add]; exact hat j _ h2⟩) (hl65 k s hs) hla (HK.out.belowP HBR.out) (by
          obtain ⟨mm, hmm⟩ := HML.out
          exact ⟨mm, (World.cell?_of_block (HBR.out.block _ (World.block_lt_of_cell? _ _ hmm))).trans hmm⟩)
        have hlr := lead_round hs HLD.out
        rw [hah, hkk] at hlr
        obtain ⟨cb, hcb⟩ : ∃ b, Lib.contains ahd kk = b := ⟨_, rfl⟩
        rw [hcb] at hcd hlr
        have HCD := Lib.hid hcd
        have HLR := Lib.hid hlr
        have HMK := Lib.hid hk
        clear hcd hlr hcb hcase hla hat hl65 hz hs hkk hah HLD
        go_wp2_with fail
        refine HCD.out.mono ?_
        rintro e w2 ⟨rfl, hb2⟩
        have hn2 := HN1.out.after hb2
        have c22 := hn2.cell (j := 0) rfl
        have c12 : w2.cell? ⟨w.heap.size + 1, 0, none⟩ = some (.slice (some ⟨bk, 0, none⟩) m c) := (hb2.cell (p := ⟨w.heap.size + 1, 0, none⟩) s1).trans c1
        have c02 : w2.cell? ⟨w.heap.size, 0, none⟩ = some (.string ⟨root.toArray⟩) := (hb2.cell (p := ⟨w.heap.size, 0, none⟩) (show w.heap.size < wr.heap.size by omega)).trans c0
        have HBT := Lib.hid (HBR.out.trans (hb2.mono HBR.out.size))
        have fz2 := hn2.frozen 0
        have s22 := hn2.lt
        have s12 : w.heap.size + 1 < w2.heap.size := by omega
        have HN2 := Lib.hid hn2
        have HQ0 := Lib.hid c02
        have HQ1 := Lib.hid c12
        clear hb2 hn2 c0 c1 c2 fz c02 HN1 HCD
        cases cb with
        | true =>
          have HLD := Lib.hid (HLR.out.1 rfl)
          have i9 : wrap64 ((k : Int) + 1) = (k : Int) + 1 := by unfold wrap64; have := HM.out; omega
          clear HLR
          go_wp2_with fail
          go_roundg (m - (k + 1))
          case measure => omega
          case rel =>
            refine ⟨⟨k + 1, by rw [HM.out]; omega, by rw [HM.out]; exact Nat.le_refl _, ?_, ?_, ?_, HLD.out⟩, HBT.out.setCell (p := ⟨w.heap.size + 1 + 1, 0, none⟩) (show w.heap.size ≤ w.heap.size + 1 + 1 by omega) _⟩
            · exact (World.cell?_setCell_other _ _ _ _ (by intro e; have h : w.heap.size + 1 + 1 = w.heap.size := congrArg Addr.block e; omega)).trans HQ0.out
            · rw [HM.out]; exact (World.cell?_setCell_other _ _ _ _ (by intro e; have h : w.heap.size + 1 + 1 = w.heap.size + 1 := congrArg Addr.block e; omega)).trans HQ1.out
            · exact HN2.out.set 0 _
        | false =>
          have HEND := Lib.hid (HLR.out.2 rfl)
          clear HLR HBR
          obtain ⟨T, hT⟩ : ∃ T, (xs.take k).map bt = T := ⟨_, rfl⟩
          have HTR : Hid (T = R.map bt) := Lib.hid (by rw [← hT, ← HEND.out, HR.out])
          have HTL : Hid (T.length = k) := Lib.hid (by rw [← hT, List.length_map, List.length_take, HM.out]; omega)
          have HTA : Hid (∀ (j : Nat) (x : ByteArray), T[j]? = some x → bk < w.heap.size ∧ w.cell? ⟨bk, j, none⟩ = some (.string x)) := Lib.hid fun j x hx => by
            rw [← hT, List.map_take, List.getElem?_take] at hx
            split at hx
            · rw [List.getElem?_map] at hx
              cases ht : xs[j]? with
              | none => rw [ht] at hx; cases hx
              | some t =>
                rw [ht] at hx
                cases hx
                exact HAT.out j t ht
            · cases hx
          have hnp := OwnS.lit w2 w.heap.size [] HBT.out.size (by decide)
          have HNP := Lib.hid hnp
          clear hnp hT
          go_wp2_with (at_builtin; refine wpList_appendTs rfl _ _ 23 rfl w.heap.size Tryd.underlying23 infoStr _ [] rfl HNP.out ⟨bk, 0, none⟩ k c T rfl HTL.out ?e1 ?e2 ?e3 ?_)
          case e1 => exact fun j x hx => by have h := ((HBT.out.alloc HBT.out.size (.cells #[] 9)).cell (p := ⟨bk, j, none⟩) (HTA.out j x hx).1).trans (HTA.out j x hx).2; first | exact h | (rw [show (⟨bk, 0, none⟩ : Addr).add j = ⟨bk, j, none⟩ from addr_add bk j]; exact h)
          case e2 => have := HM.out; simp; omega
          case e3 => have := HBT.out.size; simp; omega
          intro v9 w9 ho9 hg9 _
          have hb9 : Below w.heap.size w w9 := (HBT.out.alloc HBT.out.size _).grown hg9 (by have := HBT.out.size; simp; omega) (fun r e => (HNP.out.lt r e).1)
          change OwnS w.heap.size w9 v9 T at ho9
          rw [HTR.out] at ho9
          obtain ⟨p9, c9, rfl⟩ := ho9.form
          rw [List.length_map] at ho9 ⊢
          have HO9 := Lib.hid ho9
          have HB9 := Lib.hid hb9
          clear ho9 hb9 hg9 HNP HBT
          go_wp2_with fail
          go_ret2
          exact ⟨_, _, rfl, HO9.out, HB9.out⟩
      · have g2 : ¬ (k : Int) < (m : Int) := by omega
        have hkm : k = m := by omega
        have HEND := Lib.hid (lead_end (by rw [HM.out]; exact hkm) HLD.out)
        clear hkm HLD
        obtain ⟨T, hT⟩ : ∃ T, (xs.take k).map bt = T := ⟨_, rfl⟩
        have HTR : Hid (T = R.map bt) := Lib.hid (by rw [← hT, ← HEND.out, HR.out])
        have HTL : Hid (T.length = k) := Lib.hid (by rw [← hT, List.length_map, List.length_take, HM.out]; omega)
        have HTA : Hid (∀ (j : Nat) (x : ByteArray), T[j]? = some x → bk < w.heap.size ∧ w.cell? ⟨bk, j, none⟩ = some (.string x)) := Lib.hid fun j x hx => by
          rw [← hT, List.map_take, List.getElem?_take] at hx
          split at hx
          · rw [List.getElem?_map] at hx
            cases ht : xs[j]? with
            | none => rw [ht] at hx; cases hx
            | some t =>
              rw [ht] at hx
              cases hx
              exact HAT.out j t ht
          · cases hx
        have hnp := OwnS.lit wr w.heap.size [] HBR.out.size (by decide)
        have HNP := Lib.hid hnp
        clear hnp hT
        go_wp2_with (at_builtin; refine wpList_appendTs rfl _ _ 23 rfl w.heap.size Tryd.underlying23 infoStr _ [] rfl HNP.out ⟨bk, 0, none⟩ k c T rfl HTL.out ?e1 ?e2 ?e3 ?_)
        case e1 => exact fun j x hx => by have h := ((HBR.out.alloc HBR.out.size (.cells #[] 9)).cell (p := ⟨bk, j, none⟩) (HTA.out j x hx).1).trans (HTA.out j x hx).2; first | exact h | (rw [show (⟨bk, 0, none⟩ : Addr).add j = ⟨bk, j, none⟩ from addr_add bk j]; exact h)
        case e2 => have := HM.out; simp; omega
        case e3 => have := HBR.out.size; simp; omega
        intro v9 w9 ho9 hg9 _
        have hb9 : Below w.heap.size w w9 := (HBR.out.alloc HBR.out.size _).grown hg9 (by have := HBR.out.size; simp; omega) (fun r e => (HNP.out.lt r e).1)
        change OwnS w.heap.size w9 v9 T at ho9
        rw [HTR.out] at ho9
        obtain ⟨p9, c9, rfl⟩ := ho9.form
        rw [List.length_map] at ho9 ⊢
        have HO9 := Lib.hid ho9
        have HB9 := Lib.hid hb9
        clear ho9 hb9 hg9 HNP HBR
        go_wp2_with fail
        go_ret2
        exact ⟨_, _, rfl, HO9.out, HB9.out⟩
end Go.Proofs.YthicdhnjincflaaDoor
