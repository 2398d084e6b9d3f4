/- Contract of pharosref08.Sums. -/
import Derived.Test.YtfbopnebfdkhdaaDoorRf8B
namespace Go.Proofs.YtfbopnebfdkhdaaDoor
open Go.RowKit Go.Shelf Go.Lib
attribute [local go_sem] Oper.semAt_some
theorem padB_small (d : Nat) (xs : List ByteArray) (h : ∀ x ∈ xs, x.size ≤ 1048576) : ∀ x ∈ padB d xs, x.size ≤ 1048576 := by
  intro x hx
  unfold padB at hx
  rcases List.mem_append.1 hx with hx | hx
  · exact h x hx
  · rw [(List.mem_replicate.1 hx).2, noughtB_size]; omega
theorem sumsUp_small (l : List ByteArray) (m u : Nat) (h : l.length ≤ m) (hu : u ≤ 16) (hm : m ≤ 65536 := by omega) : (sumsUp l u).length ≤ 1048576 := by
  have key : ∀ u, (sumsUp l u).length ≤ u * m := by
    intro u
    induction u with
    | zero => simp [sumsUp]
    | succ u ih =>
      rw [sumsUp, List.length_append, pairsB_length, lvlB_length]
      have : l.length / 2 ^ u ≤ l.length := Nat.div_le_self _ _
      rw [Nat.succ_mul]; omega
  have := key u
  have h2 : u * m ≤ 16 * 65536 := Nat.mul_le_mul hu hm
  omega

set_option maxRecDepth 100000 in
set_option maxHeartbeats 3200000 in
theorem sums3_any (v : Value) (xs : List ByteArray) (w : World) (hv : Strs w v xs) (h0 : xs ≠ []) (hN : xs.length ≤ 8) (hxs : ∀ x ∈ xs, x.size ≤ 1048576) :
    Calls Tryd.prog 37 #[v, .int .i64 3] w fun e w' => ∃ v', e = .returned v' ∧ OwnS w.heap.size w' v' (sumsUp (padB 3 xs) 3) ∧ Below w.heap.size w w' := by
  have hlv := fun u (hu : u ≤ 3) W (h : Strs W v xs) => level3_any v xs u W h hu h0 hN hxs
  have hpl : (padB 3 xs).length = 8 := padB_length 3 xs hN
  have hps := padB_small 3 xs hxs
  have HV := Lib.hid hv
  have HLV := Lib.hid hlv
  obtain ⟨p, c, rfl, -, -⟩ := hv
  obtain ⟨pl, hpe⟩ : ∃ pl, padB 3 xs = pl := ⟨_, rfl⟩
  rw [hpe] at hpl hps HLV ⊢
  have HPL := Lib.hid hpl
  have HPS := Lib.hid hps
  clear hlv hpl hpe h0 hxs hps
  go_enter Tryd.func37, Tryd.ntmps37
  go_wp2_with fail
  go_loopw [5, 6] (fun v i wr => ∃ u : Nat, u ≤ 3 ∧ i = .int .i64 u ∧ Aside (OwnS w.heap.size wr v (sumsUp pl u)) ∧ Aside (Below w.heap.size w wr)) (fun _ i _ => 3 - (RowKit.intOf i).toNat)
  case atStart => exact ⟨0, Nat.zero_le _, rfl, OwnS.nil _ _, Below.refl _ _⟩
  case round =>
    obtain ⟨u, hu, rfl, HO, HB⟩ := hrel
    obtain ⟨w6, hw6⟩ : ∃ w6, wr = w6 := ⟨_, rfl⟩
    rw [hw6] at HO HB ⊢
    clear hw6 wr
    by_cases hlu : u < 3
    · obtain ⟨hev, hle⟩ := lvlB_even pl 3 u HPL.out (by omega)
      have hnext : sumsUp pl (u + 1) = sumsUp pl u ++ pairsB (lvlB pl u) := rfl
      have h1 := HLV.out u (by omega) w6 (HV.out.below HB.out)
      obtain ⟨L, hL⟩ : ∃ L, lvlB pl u = L := ⟨_, rfl⟩
      have hlx := lvlB_mem pl 1048576 (by omega) HPS.out u
      rw [hL] at hev hle hnext h1 hlx
      have HLX := Lib.hid hlx
      clear hlx
      have hsb : (sumsUp pl u).length ≤ 1048576 := sumsUp_small pl 8 u (by rw [HPL.out]; omega) (by omega)
      obtain ⟨A, hA⟩ : ∃ A, sumsUp pl u = A := ⟨_, rfl⟩
      have ho := HO.out
      rw [hA] at ho hnext hsb
      obtain ⟨pv, cv, hv⟩ := ho.form
      obtain ⟨r0, hr0⟩ : ∃ r, A.length = r := ⟨_, rfl⟩
      rw [hr0] at hv hsb
      subst hv
      have HR0 := Lib.hid hr0
      clear hr0
      obtain ⟨m, hm⟩ : ∃ m, L.length / 2 = m := ⟨_, rfl⟩
      obtain ⟨q, hq⟩ : ∃ q, L.length = q := ⟨_, rfl⟩
      rw [hq] at hev hle hm
      have hm2 : q = 2 * m := by omega
      have hle' : q ≤ 16 := by omega
      have H1 := Lib.hid h1
      have HNX := Lib.hid hnext
      have HQ := Lib.hid hq
      have HM := Lib.hid hm2
      have HO1 := Lib.hid ho
      have g11 : decide ((u : Int) < 3) = true := by simp; omega
      clear hnext h1 hL hA ho hq hm hm2 HO hev hle
      go_wp2_with fail
      refine H1.out.mono ?_
      rintro e w7 ⟨vl, rfl, hol, hb7⟩
      obtain ⟨pl', cl, hvl⟩ := hol.form
      rw [HQ.out] at hvl
      have hlt7 : ∀ k, (Value.slice pl' q cl).ownBlock = some k → w6.heap.size ≤ k ∧ k < w7.heap.size := by
        rw [← hvl]; exact hol.lt
      subst hvl
      have hcells : 0 < q → ∃ g, pl' = some ⟨g, 0, none⟩ ∧ w6.heap.size ≤ g ∧ g < w7.heap.size ∧ ∀ j x, L[j]? = some x → w7.cell? ⟨g, j, none⟩ = some (.string x) := by
        intro h
        obtain ⟨g, cg, hvg, hg0, hg1, hgc, -⟩ := hol.opened (by rw [HQ.out]; exact h)
        cases hvg
        exact ⟨g, rfl, hg0, hg1, hgc⟩
      have hout : OwnS w.heap.size w7 (.slice pv r0 cv) A := HO1.out.after hb7
      have hne : ∀ k, (Value.slice pv r0 cv).ownBlock = some k → ∀ g, (Value.slice pl' q cl).ownBlock = some g → k ≠ g := fun k hk g hg => by
        have := (HO1.out.lt k hk).2
        have := (hlt7 g hg).1
        omega
      have HB7 := Lib.hid (HB.out.trans (hb7.mono HB.out.size))
      have HO7 := Lib.hid hout
      have HNE := Lib.hid hne
      have HCE := Lib.hid hcells
      clear hol hb7 hlt7 hcells hout hne HO1 HB
      go_wp2_with fail
      go_loopw [5, 8] (fun v' i wr => ∃ j : Nat, j ≤ m ∧ i = .int .i64 ((2 * j : Nat) : Int) ∧ Aside (OwnS w.heap.size wr v' (A ++ (pairsB L).take j)) ∧ Aside (Below w.heap.size w wr) ∧ Aside (∀ k, v'.ownBlock = some k → ∀ g, (Value.slice pl' q cl).ownBlock = some g → k ≠ g) ∧ Aside (w7.heap.size ≤ wr.heap.size ∧ ∀ g, (Value.slice pl' q cl).ownBlock = some g → wr.heap[g]? = w7.heap[g]?)) (fun _ i _ => q - (RowKit.intOf i).toNat)
      case atStart => exact ⟨0, Nat.zero_le _, rfl, (by rw [List.take_zero, List.append_nil]; exact HO7.out), HB7.out, HNE.out, Nat.le_refl _, fun _ _ => rfl⟩
      case round =>
        clear HO7 HB7 HNE
        obtain ⟨j, hj, rfl, HN, HBj, HD, HG⟩ := hrel
        by_cases hlj : j < m
        · obtain ⟨x, hx⟩ : ∃ x, L[2 * j]? = some x := ⟨_, List.getElem?_eq_getElem (by have := HQ.out; have := HM.out; omega)⟩
          obtain ⟨y, hy⟩ : ∃ y, L[2 * j + 1]? = some y := ⟨_, List.getElem?_eq_getElem (by have := HQ.out; have := HM.out; omega)⟩
          have g9 : ¬ 9223372036854775807 < x.size + y.size := by
            have hxs := HLX.out x (List.mem_of_getElem? hx)
            have hys := HLX.out y (List.mem_of_getElem? hy)
            omega
          have hts := pairsB_take L j x y (by have := HQ.out; have := HM.out; omega) hx hy
          obtain ⟨g, rfl, hg0, hg1, hgc⟩ := HCE.out (by have := HM.out; omega)
          have hgr := HG.out.2 g rfl
          have hgs : g < wr.heap.size := Nat.lt_of_lt_of_le hg1 HG.out.1
          have hn := HN.out
          have hnl : (A ++ (pairsB L).take j).length ≤ 2097152 := by rw [List.length_append, List.length_take, pairsB_length]; have := HQ.out; have := HR0.out; omega
          have htt : A ++ (pairsB L).take (j + 1) = (A ++ (pairsB L).take j) ++ [x ++ y] := by rw [hts, List.append_assoc]
          obtain ⟨N, hN'⟩ : ∃ N, A ++ (pairsB L).take j = N := ⟨_, rfl⟩
          obtain ⟨xy, hxy⟩ : ∃ xy, x ++ y = xy := ⟨_, rfl⟩
          rw [hN', hxy] at htt
          rw [hN'] at hnl hn
          obtain ⟨pn, cn, hvn⟩ := hn.form
          obtain ⟨r1, hr1⟩ : ∃ r, N.length = r := ⟨_, rfl⟩
          rw [hr1] at hvn hnl
          subst hvn
          have HR1 := Lib.hid hr1
          have hdd : ∀ k, (Value.slice pn r1 cn).ownBlock = some k → k ≠ g := fun k hk => HD.out k hk g rfl
          obtain ⟨t, ht⟩ : ∃ t, 2 * j = t := ⟨_, rfl⟩
          have htq : t + 1 < q := by have := HM.out; omega
          rw [ht] at hx hy ⊢
          have hS : ∀ W' : World, W'.heap[g]? = wr.heap[g]? → W'.cell? ⟨g, t, none⟩ = some (.string x) ∧ W'.cell? ⟨g, t + 1, none⟩ = some (.string y) := fun W' hb =>
            ⟨(World.cell?_of_block (a := ⟨g, t, none⟩) (hb.trans hgr)).trans (hgc _ _ hx), (World.cell?_of_block (a := ⟨g, t + 1, none⟩) (hb.trans hgr)).trans (hgc _ _ hy)⟩
          have HS := Lib.hid hS
          have HTT := Lib.hid htt
          have HNL := Lib.hid hnl
          have HXY := Lib.hid hxy
          have HN1 := Lib.hid (show OwnS w.heap.size wr.drew (.slice pn r1 cn) N from hn.of_block (fun _ _ => rfl))
          have HT := Lib.hid ht
          have HGR := Lib.hid hgr
          have HDD := Lib.hid hdd
          have HBD := Lib.hid (HBj.out.drew)
          have hzw : w.heap.size ≤ wr.heap.size := HBj.out.size
          have g1 : (0 : Int) ≤ t := by omega
          have g2 : (t : Int) < q := by omega
          have g3 : IntKind.i64.wrap ((t : Int) + 1) = (t : Int) + 1 := IntWalk.i64_in _ (by omega)
          have g4 : (0 : Int) ≤ (t : Int) + 1 := by omega
          have g5 : (t : Int) + 1 < q := by omega
          have g6 : ((t : Int) + 1).toNat = t + 1 := by omega
          have g7 : IntKind.i64.wrap ((t : Int) + 2) = (t : Int) + 2 := IntWalk.i64_in _ (by omega)
          clear hS hts htt hnl hn hN' hr1 hxy hx hy hgc hgr hdd HN HD ht
          go_wp2_with fail
          refine wp_region_held_drew (S := (fun W => W.cell? ⟨g, t, none⟩ = some (.string x) ∧ W.cell? ⟨g, t + 1, none⟩ = some (.string y))) (by kernel_rfl) (HS.out _ rfl) (fun hHeld => ?_)
          refine wpAnyH_take (i := 0) (v := ?_) rfl (by kernel_rfl) (by kernel_rfl) (by kernel_rfl) (fun _ _ _ h => h) (.inl ⟨by rfl, ?_⟩) (by assumption) ?_
          rotate_left 1
          · intro w0 hSw
            go_simp <;> with_reducible rfl
          try simp only [Act.put, List.getElem_toArray, List.getElem_cons_zero, List.setIfInBounds_toArray, List.set_cons_zero, List.set_cons_succ]
          refine wpAnyH_take (i := 1) (v := ?_) rfl (by kernel_rfl) (by kernel_rfl) (by kernel_rfl) (fun _ _ _ h => h) (.inl ⟨by rfl, ?_⟩) (by assumption) ?_
          rotate_left 1
          · intro w0 hSw
            go_simp <;> with_reducible rfl
          try simp only [Act.put, List.getElem_toArray, List.getElem_cons_zero, List.getElem_cons_succ, List.setIfInBounds_toArray, List.set_cons_zero, List.set_cons_succ]
          refine wpAnyH_take (i := 2) (v := ?_) rfl (by kernel_rfl) (by kernel_rfl) (by kernel_rfl) (fun _ _ _ h => h) (.inl ⟨by rfl, ?_⟩) (by assumption) ?_
          rotate_left 1
          · intro w0 hSw
            go_simp <;> with_reducible rfl
          try simp only [Act.put, List.getElem_toArray, List.getElem_cons_zero, List.getElem_cons_succ, List.setIfInBounds_toArray, List.set_cons_zero, List.set_cons_succ]
          refine wpAnyH_take (i := 3) (v := ?_) rfl (by kernel_rfl) (by kernel_rfl) (by kernel_rfl) (fun _ _ _ h => h) (.inl ⟨by rfl, ?_⟩) (by assumption) ?_
          rotate_left 1
          · intro w0 hSw
            go_simp <;> with_reducible rfl
          try simp only [Act.put, List.getElem_toArray, List.getElem_cons_zero, List.getElem_cons_succ, List.setIfInBounds_toArray, List.set_cons_zero, List.set_cons_succ]
          refine wpAnyH_take (i := 4) (v := ?_) rfl (by kernel_rfl) (by kernel_rfl) (by kernel_rfl) (fun _ _ _ h => h) (.inl ⟨by rfl, ?_⟩) (by assumption) ?_
          rotate_left 1
          · intro w0 hSw
            obtain ⟨z0, z1⟩ := hSw
            go_simp <;> with_reducible rfl
          try simp only [Act.put, List.getElem_toArray, List.getElem_cons_zero, List.getElem_cons_succ, List.setIfInBounds_toArray, List.set_cons_zero, List.set_cons_succ]
          refine wpAnyH_take (i := 5) (v := ?_) rfl (by kernel_rfl) (by kernel_rfl) (by kernel_rfl) (fun _ _ _ h => h) (.inl ⟨by rfl, ?_⟩) (by assumption) ?_
          rotate_left 1
          · intro w0 hSw
            go_simp <;> with_reducible rfl
          try simp only [Act.put, List.getElem_toArray, List.getElem_cons_zero, List.getElem_cons_succ, List.setIfInBounds_toArray, List.set_cons_zero, List.set_cons_succ]
          refine wpAnyH_take (i := 6) (v := ?_) rfl (by kernel_rfl) (by kernel_rfl) (by kernel_rfl) (fun _ _ _ h => h) (.inl ⟨by rfl, ?_⟩) (by assumption) ?_
          rotate_left 1
          · intro w0 hSw
            go_simp <;> with_reducible rfl
          try simp only [Act.put, List.getElem_toArray, List.getElem_cons_zero, List.getElem_cons_succ, List.setIfInBounds_toArray, List.set_cons_zero, List.set_cons_succ]
          refine wpAnyH_take (i := 7) (v := ?_) rfl (by kernel_rfl) (by kernel_rfl) (by kernel_rfl) (fun _ _ _ h => h) (.inl ⟨by rfl, ?_⟩) (by assumption) ?_
          rotate_left 1
          · intro w0 hSw
            go_simp <;> with_reducible rfl
          try simp only [Act.put, List.getElem_toArray, List.getElem_cons_zero, List.getElem_cons_succ, List.setIfInBounds_toArray, List.set_cons_zero, List.set_cons_succ]
          refine wpAnyH_take (i := 8) (v := ?_) rfl (by kernel_rfl) (by kernel_rfl) (by kernel_rfl) (fun _ _ _ h => h) (.inl ⟨by rfl, ?_⟩) (by assumption) ?_
          rotate_left 1
          · intro w0 hSw
            go_simp <;> with_reducible rfl
          try simp only [Act.put, List.getElem_toArray, List.getElem_cons_zero, List.getElem_cons_succ, List.setIfInBounds_toArray, List.set_cons_zero, List.set_cons_succ]
          refine wpAnyH_take (i := 9) (v := ?_) rfl (by kernel_rfl) (by kernel_rfl) (by kernel_rfl) (fun _ _ _ h => h) (.inl ⟨by rfl, ?_⟩) (by assumption) ?_
          rotate_left 1
          · intro w0 hSw
            obtain ⟨z0, z1⟩ := hSw
            go_simp <;> with_reducible rfl
          try simp only [Act.put, List.getElem_toArray, List.getElem_cons_zero, List.getElem_cons_succ, List.setIfInBounds_toArray, List.set_cons_zero, List.set_cons_succ]
          refine wpAnyH_take (i := 10) (v := ?_) rfl (by kernel_rfl) (by kernel_rfl) (by kernel_rfl) (fun _ _ _ h => h) (.inl ⟨by rfl, ?_⟩) (by assumption) ?_
          rotate_left 1
          · intro w0 hSw
            go_simp <;> with_reducible rfl
          try simp only [Act.put, List.getElem_toArray, List.getElem_cons_zero, List.getElem_cons_succ, List.setIfInBounds_toArray, List.set_cons_zero, List.set_cons_succ]
          rw [HXY.out]
          refine wpAnyH_ready (rs := [11]) (by kernel_rfl) (by simp) ?_
          refine AllReadyH.cons rfl (fun K hK => ?_) AllReadyH.nil
          go_simp
          have e1 : (wr.drew.alloc (.cells #[.string xy] 9)).heap[g]? = wr.heap[g]? := Below.heap_alloc _ _ _ hgs
          refine hK.out _ _ (HS.out _ e1) (fun hHeld => ?_)
          clear hK K
          try simp only [Act.put, List.getElem_toArray, List.getElem_cons_zero, List.getElem_cons_succ, List.setIfInBounds_toArray, List.set_cons_zero, List.set_cons_succ]
          refine wpAnyH_ready (rs := [12]) (by kernel_rfl) (by simp) ?_
          refine AllReadyH.cons rfl (fun K hK => ?_) AllReadyH.nil
          refine step_appendTs (by rfl) _ _ 30 rfl w.heap.size Tryd.underlying30 infoStr _ N rfl (HN1.out.alloc _) ⟨wr.drew.heap.size, 0, none⟩ 1 1 [xy] rfl rfl ?e0 ?e1 ?e2 ?_
          case e0 => exact fun j' x' h => one_at h (fun e1 e2 => by subst e1; subst e2; exact cells_new_at rfl [.string xy] 9 0 _ rfl)
          case e1 => have := HNL.out; rw [HR1.out]; omega
          case e2 => simp; omega
          intro v9 w9 ho9 hg9 hp9
          have hgn : w9.heap[g]? = wr.heap[g]? := (hg9.block g (by simp; omega) (fun e => HDD.out g e.symm rfl)).trans e1
          have HB9 := Lib.hid ((HBD.out.alloc hzw _).grown hg9 (by simp; omega) (fun r e => (HN1.out.lt r e).1))
          have HG9 := Lib.hid (show w7.heap.size ≤ w9.heap.size ∧ ∀ g', (Value.slice (some ⟨g, 0, none⟩) q cl).ownBlock = some g' → w9.heap[g']? = w7.heap[g']? from ⟨by have h1 := hg9.size; have h2 := HG.out.1; simp at h1; omega, fun g' e => by cases e; exact hgn.trans HGR.out⟩)
          have HD9 := Lib.hid (show ∀ k, v9.ownBlock = some k → ∀ g', (Value.slice (some ⟨g, 0, none⟩) q cl).ownBlock = some g' → k ≠ g' from fun k hk g' e => by cases e; exact hp9.elim (fun hp => HDD.out k (hp.symm.trans hk)) (fun hp hkg => absurd (Nat.le_trans (hp k hk) (Nat.le_of_eq hkg)) (by show ¬ (wr.alloc _).heap.size ≤ g; rw [World.size_alloc]; omega)))
          rw [← HTT.out] at ho9
          have HO9 := Lib.hid ho9
          clear ho9 hg9 hp9 e1
          refine hK.out _ _ (HS.out _ hgn) (fun hHeld => ?_)
          clear hK K
          try simp only [Act.put, List.getElem_toArray, List.getElem_cons_zero, List.getElem_cons_succ, List.setIfInBounds_toArray, List.set_cons_zero, List.set_cons_succ]
          refine wpAnyH_take (i := 13) (v := ?_) rfl (by kernel_rfl) (by kernel_rfl) (by kernel_rfl) (fun _ _ _ h => h) (.inl ⟨by rfl, ?_⟩) (by assumption) ?_
          rotate_left 1
          · intro w0 hSw
            go_simp <;> with_reducible rfl
          try simp only [Act.put, List.getElem_toArray, List.getElem_cons_zero, List.getElem_cons_succ, List.setIfInBounds_toArray, List.set_cons_zero, List.set_cons_succ]
          refine wpAnyH_done (by kernel_rfl) ?_ 0
          go_wp2
          go_roundw
          case rel => exact ⟨j + 1, by omega, (by have := HT.out; rw [show 2 * (j + 1) = t + 2 from by omega]; go_num), HO9.out, HB9.out, HD9.out, HG9.out⟩
          case measure => simp [RowKit.intOf]; omega
        · obtain rfl : j = m := by omega
          have hn := HN.out
          rw [List.take_of_length_le (by rw [pairsB_length, HQ.out]; have := HM.out; omega), ← HNX.out] at hn
          have HO8 := Lib.hid hn
          have hM := HM.out
          clear hn HN
          rw [← hM]
          go_wp2
          go_roundw
          case rel => exact ⟨u + 1, by omega, by go_num, HO8.out, HBj.out⟩
          case measure => simp [RowKit.intOf]; omega
    · obtain rfl : u = 3 := by omega
      go_wp2
      go_ret
      exact ⟨_, rfl, HO.out, HB.out⟩
end Go.Proofs.YtfbopnebfdkhdaaDoor
