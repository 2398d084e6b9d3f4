/- Contracts of pharosref08's level and Sums at the depth 2, right, Root, Way; pharosref13's ExecRoot, ExecSums. -/
import Derived.Test.YtfbopnebfdkhdaaDoorR13A
import Derived.Test.YtfbopnebfdkhdaaDoorHedC
namespace Go.Proofs.YtfbopnebfdkhdaaDoor
open Go.RowKit Go.Shelf Go.Lib
attribute [local go_sem] Oper.semAt_some

set_option maxRecDepth 100000 in
set_option maxHeartbeats 3200000 in
theorem level2_any (v : Value) (xs : List ByteArray) (up : Nat) (w : World) (hv : Strs w v xs) (hup : up ≤ 2) (h0 : xs ≠ []) (hN : xs.length ≤ 4) (hxs : ∀ x ∈ xs, x.size ≤ 1048576) :
    Calls Tryd.prog 80 #[v, .int .i64 2, .int .i64 up] w fun e w' => ∃ v', e = .returned v' ∧ OwnS w.heap.size w' v' (lvlB (padB 2 xs) up) ∧ Below w.heap.size w w' := by
  obtain ⟨p, c, rfl, hc, hcell⟩ := hv
  obtain ⟨bk, o, rfl, hbk, hcl⟩ := hcell.resolve_left h0
  have hpl : (padB 2 xs).length = 4 := padB_length 2 xs hN
  have hps : ∀ x ∈ padB 2 xs, x.size ≤ 1048576 := by
    intro x hx
    unfold padB at hx
    rcases List.mem_append.1 hx with hx | hx
    · exact hxs x hx
    · rw [(List.mem_replicate.1 hx).2, noughtB_size]; omega
  have hpd : padB 2 xs = xs ++ List.replicate (4 - xs.length) noughtB := rfl
  obtain ⟨pl, hpe⟩ : ∃ pl, padB 2 xs = pl := ⟨_, rfl⟩
  rw [hpe] at hpl hps hpd ⊢
  have hnz := fun W => noughts_any 32 W (by omega)
  rw [noughtB_eq] at hnz
  obtain ⟨z, hz⟩ : ∃ z, noughtB = z := ⟨_, rfl⟩
  rw [hz] at hnz hpd
  obtain ⟨n, hn⟩ : ∃ n, xs.length = n := ⟨_, rfl⟩
  rw [hn] at hN hc hpd ⊢
  have h0n : 0 < n := by rw [← hn]; exact List.length_pos_iff.2 h0
  have HPL := Lib.hid hpl
  have HPS := Lib.hid hps
  have HPD := Lib.hid hpd
  have HNZ := Lib.hid hnz
  have HCL := Lib.hid hcl
  have HLN := Lib.hid hn
  obtain ⟨i0, i1, i2, i3, i4⟩ := infoStrZ
  have I1 := Lib.hid i1
  have I2 := Lib.hid i2
  have I3 := Lib.hid i3
  have I4 := Lib.hid i4
  clear hcell h0 hxs hpl hps hpd hpe hnz hz hcl hn i1 i2 i3 i4
  go_enter Tryd.func80, Tryd.ntmps80
  go_wp2_with (at_make; refine wpList_make_own _ rfl _ _ 30 rfl w.heap.size 9 i0 (.string ⟨#[]⟩) 1 Tryd.underlying30 I1.out I2.out I3.out .i64 .i64 _ 4 rfl rfl ?c0 ?c1 ?c2 ?c3 ?_)
  case c0 => rfl
  case c1 => rw [I4.out]; omega
  case c2 => unfold maxLen; omega
  case c3 => exact Nat.le_refl _
  intro w1 ho1 hg1
  have hb1 : Below w.heap.size w w1 := (Below.refl _ _).grown hg1 (Nat.le_refl _) (fun k e => by cases e)
  have ho1' : OwnS w.heap.size w1 (.slice (some ⟨w.heap.size, 0, none⟩) 0 4) [] := ho1
  have HO1 := Lib.hid ho1'
  have HB1 := Lib.hid hb1
  clear ho1 ho1' hg1 hb1
  go_wp2_with (at_builtin; refine wpList_appendTs rfl _ _ 30 rfl w.heap.size Tryd.underlying30 infoStr _ [] rfl HO1.out ⟨bk, o, none⟩ n c xs rfl ?c4 ?c5 ?c6 ?c7 ?_)
  case c4 => exact HLN.out
  case c5 =>
    intro j x hx
    have ea : (⟨bk, o, none⟩ : Addr).add j = ⟨bk, o + j, none⟩ := by unfold Addr.add; split <;> simp_all
    rw [ea]
    exact (HB1.out.cell (p := ⟨bk, o + j, none⟩) hbk).trans (HCL.out j x hx)
  case c6 => simp; omega
  case c7 => exact HB1.out.size
  intro v2 w2 ho2 hg2 _
  have hb2 : Below w.heap.size w w2 := HB1.out.grown hg2 HB1.out.size (fun r e => (HO1.out.lt r e).1)
  have HO2 := Lib.hid ho2
  have HB2 := Lib.hid hb2
  clear ho2 hg2 hb2 HO1 HB1
  go_wp2_with fail
  go_loopw [7] (fun v wr => ∃ k : Nat, n + k ≤ 4 ∧ Aside (OwnS w.heap.size wr v (xs ++ List.replicate k z)) ∧ Aside (Below w.heap.size w wr)) (fun v _ => 4 - (match v with | .slice _ l _ => l | _ => 0))
  case atStart => exact ⟨0, by omega, (by rw [List.replicate_zero, List.append_nil]; exact HO2.out), HB2.out⟩
  case round =>
    clear HO2 HB2
    obtain ⟨k, hk, HO, HB⟩ := hrel
    have ho := HO.out
    obtain ⟨pv, cv, hv⟩ := ho.form
    have hll : (xs ++ List.replicate k z).length = n + k := by rw [List.length_append, List.length_replicate, HLN.out]
    rw [hll] at hv
    have hn1 : xs ++ List.replicate (k + 1) z = (xs ++ List.replicate k z) ++ [z] := by rw [List.replicate_succ', List.append_assoc]
    obtain ⟨L, hL⟩ : ∃ L, xs ++ List.replicate k z = L := ⟨_, rfl⟩
    rw [hL] at ho hll hn1
    obtain ⟨q, hq⟩ : ∃ q, n + k = q := ⟨_, rfl⟩
    rw [hq] at hv hk hll
    subst hv
    have HO' := Lib.hid ho
    have HLL := Lib.hid hll
    have HN1 := Lib.hid hn1
    have HQ := Lib.hid hq
    have HLX := Lib.hid hL
    clear ho hll hn1 hL hq HO
    by_cases hlt : q < 4
    · have g1 : decide ((q : Int) < 4) = true := by simp; omega
      go_wp2_with fail
      refine (HNZ.out _).mono ?_
      rintro e w3 ⟨rfl, hb3⟩
      have HO3 := Lib.hid (HO'.out.after hb3)
      have HB3 := Lib.hid (HB.out.trans (hb3.mono HB.out.size))
      clear hb3 HO' HB
      go_wp2_with (at_builtin; refine wpList_appendT rfl _ _ 30 rfl w.heap.size Tryd.underlying30 infoStr _ L rfl (HO3.out.alloc _) ⟨w3.heap.size, 0, none⟩ 1 z rfl ?d0 ?d1 ?d2 ?_)
      case d0 => exact cells_new_at rfl [.string z] 9 0 _ rfl
      case d1 => rw [HLL.out]; omega
      case d2 => have := HB3.out.size; simp; omega
      intro v4 w4 ho4 hg4
      have hb4 : Below w.heap.size w w4 := (HB3.out.alloc HB3.out.size _).grown hg4 (by have := HB3.out.size; simp; omega) (fun r e => (HO3.out.lt r e).1)
      obtain ⟨p4, c4, hv4⟩ := ho4.form
      rw [List.length_append, HLL.out, List.length_singleton] at hv4
      rw [← HN1.out] at ho4
      subst hv4
      have HO4 := Lib.hid ho4
      have HB4 := Lib.hid hb4
      clear ho4 hg4 hb4 HO3 HB3
      go_wp2
      go_roundw
      case rel => exact ⟨k + 1, (by have := HQ.out; omega), HO4.out, HB4.out⟩
      case measure => simp; omega
    · obtain rfl : q = 4 := by omega
      have ho := HO'.out
      rw [← HLX.out, show k = 4 - n from by have := HQ.out; omega, ← HPD.out] at ho
      have HO5 := Lib.hid ho
      obtain ⟨w5, hw5⟩ : ∃ w5, wr = w5 := ⟨_, rfl⟩
      rw [hw5] at HO5 HB ⊢
      clear ho HO' hw5 wr HLL HN1 HLX HQ hlt hk L
      go_wp2_with fail
      go_loopw [7, 8] (fun v i wr => ∃ u : Nat, u ≤ up ∧ i = .int .i64 u ∧ Aside (OwnS w.heap.size wr v (lvlB pl u)) ∧ Aside (Below w.heap.size w wr)) (fun _ i _ => up - (RowKit.intOf i).toNat)
      case atStart => exact ⟨0, Nat.zero_le _, rfl, HO5.out, HB.out⟩
      case round =>
        clear HO5 HB
        obtain ⟨u, hu, rfl, HO, HB⟩ := hrel
        obtain ⟨w6, hw6⟩ : ∃ w6, wr = w6 := ⟨_, rfl⟩
        rw [hw6] at HO HB ⊢
        clear hw6 wr
        by_cases hlu : u < up
        · obtain ⟨hev, hle⟩ := lvlB_even pl 2 u HPL.out (by omega)
          have hms := lvlB_mem pl 1048576 (by omega) HPS.out u
          have ho := HO.out
          have hsucc : lvlB pl (u + 1) = halfs (lvlB pl u) := rfl
          obtain ⟨L, hL⟩ : ∃ L, lvlB pl u = L := ⟨_, rfl⟩
          rw [hL] at hev hle hms ho hsucc
          have hle' : L.length ≤ 16 := Nat.le_trans hle (by omega)
          obtain ⟨m, hm⟩ : ∃ m, L.length / 2 = m := ⟨_, rfl⟩
          have hm2 : L.length = 2 * m := by omega
          obtain ⟨pv, cv, hv⟩ := ho.form
          obtain ⟨q, hq⟩ : ∃ q, L.length = q := ⟨_, rfl⟩
          rw [hq] at hm2 hle' hv
          subst hv
          have HO7 := Lib.hid ho
          have HMS := Lib.hid hms
          have HSU := Lib.hid hsucc
          have HQ := Lib.hid hq
          have HM := Lib.hid hm2
          clear ho hms hsucc hq hev hle hL hm hm2 HO
          go_wp2_with fail
          go_loopw [9, 10] (fun v i wr => ∃ j : Nat, j ≤ m ∧ i = .int .i64 ((2 * j : Nat) : Int) ∧ Aside (OwnS w6.heap.size wr v ((halfs L).take j)) ∧ Aside (Below w6.heap.size w6 wr)) (fun _ i _ => q - (RowKit.intOf i).toNat)
          case atStart => exact ⟨0, Nat.zero_le _, rfl, OwnS.nil _ _, Below.refl _ _⟩
          case round =>
            obtain ⟨j, hj, rfl, HN, HBj⟩ := hrel
            by_cases hlj : j < m
            · obtain ⟨x, hx⟩ : ∃ x, L[2 * j]? = some x := ⟨_, List.getElem?_eq_getElem (by have := HQ.out; have := HM.out; omega)⟩
              obtain ⟨y, hy⟩ : ∃ y, L[2 * j + 1]? = some y := ⟨_, List.getElem?_eq_getElem (by have := HQ.out; have := HM.out; omega)⟩
              have hts := halfs_take L j x y (by have := HQ.out; have := HM.out; omega) hx hy
              obtain ⟨g, cg, hvg, hg0, hg1, hgc, -⟩ := HO7.out.opened (by have := HQ.out; have := HM.out; omega)
              rw [HQ.out] at hvg
              cases hvg
              have hxs := HMS.out x (List.mem_of_getElem? hx)
              have hys := HMS.out y (List.mem_of_getElem? hy)
              have hxy : (x ++ y).size ≤ 1099511627776 := by rw [ByteArray.size_append]; omega
              have g9 : ¬ 9223372036854775807 < x.size + y.size := by omega
              have hsum := fun W => rsum_shaB (x ++ y) W hxy
              obtain ⟨sm, hsm⟩ : ∃ sm, shaB (x ++ y) = sm := ⟨_, rfl⟩
              rw [hsm] at hsum hts
              have hnl : ((halfs L).take j).length = j := by rw [List.length_take, halfs_length]; have := HQ.out; have := HM.out; omega
              obtain ⟨N, hN'⟩ : ∃ N, (halfs L).take j = N := ⟨_, rfl⟩
              have hn := HN.out
              rw [hN'] at hts hnl hn
              obtain ⟨pn, cn, hvn⟩ := hn.form
              rw [hnl] at hvn
              subst hvn
              obtain ⟨t, ht⟩ : ∃ t, 2 * j = t := ⟨_, rfl⟩
              have htq : t + 1 < q := by have := HM.out; omega
              rw [ht] at hx hy ⊢
              have hS : ∀ W', Below w6.heap.size w6 W' → W'.cell? ⟨g, t, none⟩ = some (.string x) ∧ W'.cell? ⟨g, t + 1, none⟩ = some (.string y) := fun W' hb =>
                ⟨(hb.cell (p := ⟨g, t, none⟩) hg1).trans (hgc _ _ hx), (hb.cell (p := ⟨g, t + 1, none⟩) hg1).trans (hgc _ _ hy)⟩
              have HS := Lib.hid hS
              have HSUM := Lib.hid hsum
              have HTS := Lib.hid hts
              have HNL := Lib.hid hnl
              have HN1 := Lib.hid hn
              have HT := Lib.hid ht
              have g1 : (0 : Int) ≤ t := by omega
              have g2 : (t : Int) < q := by omega
              have g3 : IntKind.i64.wrap ((t : Int) + 1) = (t : Int) + 1 := IntWalk.i64_in _ (by omega)
              have g4 : (0 : Int) ≤ (t : Int) + 1 := by omega
              have g5 : (t : Int) + 1 < q := by omega
              have g6 : ((t : Int) + 1).toNat = t + 1 := by omega
              have g7 : IntKind.i64.wrap ((t : Int) + 2) = (t : Int) + 2 := IntWalk.i64_in _ (by omega)
              clear hS hsum hts hnl hn hN' hsm hxy hxs hys hx hy hgc HN ht
              go_wp2_with fail
              have b0 : Below w6.heap.size w6 wr.drew := HBj.out.drew
              have b0' : Below wr.heap.size wr wr.drew := (Below.refl _ _).drew
              refine wp_region_held_drew (S := (fun W => W.cell? ⟨g, t, none⟩ = some (.string x) ∧ W.cell? ⟨g, t + 1, none⟩ = some (.string y))) (by kernel_rfl) (HS.out _ b0) (fun hHeld => ?_)
              refine wpAnyH_take (i := 0) (v := ?_) rfl (by kernel_rfl) (by kernel_rfl) (by kernel_rfl) (fun _ _ _ h => h) (.inl ⟨by rfl, ?_⟩) (by assumption) ?_
              rotate_left 1
              · intro w0 hSw
                go_simp <;> with_reducible rfl
              try simp only [Act.put, List.getElem_toArray, List.getElem_cons_zero, List.setIfInBounds_toArray, List.set_cons_zero, List.set_cons_succ]
              refine wpAnyH_take (i := 1) (v := ?_) rfl (by kernel_rfl) (by kernel_rfl) (by kernel_rfl) (fun _ _ _ h => h) (.inl ⟨by rfl, ?_⟩) (by assumption) ?_
              rotate_left 1
              · intro w0 hSw
                go_simp <;> with_reducible rfl
              try simp only [Act.put, List.getElem_toArray, List.getElem_cons_zero, List.getElem_cons_succ, List.setIfInBounds_toArray, List.set_cons_zero, List.set_cons_succ]
              refine wpAnyH_take (i := 2) (v := ?_) rfl (by kernel_rfl) (by kernel_rfl) (by kernel_rfl) (fun _ _ _ h => h) (.inl ⟨by rfl, ?_⟩) (by assumption) ?_
              rotate_left 1
              · intro w0 hSw
                go_simp <;> with_reducible rfl
              try simp only [Act.put, List.getElem_toArray, List.getElem_cons_zero, List.getElem_cons_succ, List.setIfInBounds_toArray, List.set_cons_zero, List.set_cons_succ]
              refine wpAnyH_take (i := 3) (v := ?_) rfl (by kernel_rfl) (by kernel_rfl) (by kernel_rfl) (fun _ _ _ h => h) (.inl ⟨by rfl, ?_⟩) (by assumption) ?_
              rotate_left 1
              · intro w0 hSw
                go_simp <;> with_reducible rfl
              try simp only [Act.put, List.getElem_toArray, List.getElem_cons_zero, List.getElem_cons_succ, List.setIfInBounds_toArray, List.set_cons_zero, List.set_cons_succ]
              refine wpAnyH_take (i := 4) (v := ?_) rfl (by kernel_rfl) (by kernel_rfl) (by kernel_rfl) (fun _ _ _ h => h) (.inl ⟨by rfl, ?_⟩) (by assumption) ?_
              rotate_left 1
              · intro w0 hSw
                obtain ⟨z0, z1⟩ := hSw
                go_simp <;> with_reducible rfl
              try simp only [Act.put, List.getElem_toArray, List.getElem_cons_zero, List.getElem_cons_succ, List.setIfInBounds_toArray, List.set_cons_zero, List.set_cons_succ]
              refine wpAnyH_take (i := 5) (v := ?_) rfl (by kernel_rfl) (by kernel_rfl) (by kernel_rfl) (fun _ _ _ h => h) (.inl ⟨by rfl, ?_⟩) (by assumption) ?_
              rotate_left 1
              · intro w0 hSw
                go_simp <;> with_reducible rfl
              try simp only [Act.put, List.getElem_toArray, List.getElem_cons_zero, List.getElem_cons_succ, List.setIfInBounds_toArray, List.set_cons_zero, List.set_cons_succ]
              refine wpAnyH_take (i := 6) (v := ?_) rfl (by kernel_rfl) (by kernel_rfl) (by kernel_rfl) (fun _ _ _ h => h) (.inl ⟨by rfl, ?_⟩) (by assumption) ?_
              rotate_left 1
              · intro w0 hSw
                go_simp <;> with_reducible rfl
              try simp only [Act.put, List.getElem_toArray, List.getElem_cons_zero, List.getElem_cons_succ, List.setIfInBounds_toArray, List.set_cons_zero, List.set_cons_succ]
              refine wpAnyH_take (i := 7) (v := ?_) rfl (by kernel_rfl) (by kernel_rfl) (by kernel_rfl) (fun _ _ _ h => h) (.inl ⟨by rfl, ?_⟩) (by assumption) ?_
              rotate_left 1
              · intro w0 hSw
                go_simp <;> with_reducible rfl
              try simp only [Act.put, List.getElem_toArray, List.getElem_cons_zero, List.getElem_cons_succ, List.setIfInBounds_toArray, List.set_cons_zero, List.set_cons_succ]
              refine wpAnyH_take (i := 8) (v := ?_) rfl (by kernel_rfl) (by kernel_rfl) (by kernel_rfl) (fun _ _ _ h => h) (.inl ⟨by rfl, ?_⟩) (by assumption) ?_
              rotate_left 1
              · intro w0 hSw
                go_simp <;> with_reducible rfl
              try simp only [Act.put, List.getElem_toArray, List.getElem_cons_zero, List.getElem_cons_succ, List.setIfInBounds_toArray, List.set_cons_zero, List.set_cons_succ]
              refine wpAnyH_take (i := 9) (v := ?_) rfl (by kernel_rfl) (by kernel_rfl) (by kernel_rfl) (fun _ _ _ h => h) (.inl ⟨by rfl, ?_⟩) (by assumption) ?_
              rotate_left 1
              · intro w0 hSw
                obtain ⟨z0, z1⟩ := hSw
                go_simp <;> with_reducible rfl
              try simp only [Act.put, List.getElem_toArray, List.getElem_cons_zero, List.getElem_cons_succ, List.setIfInBounds_toArray, List.set_cons_zero, List.set_cons_succ]
              refine wpAnyH_take (i := 10) (v := ?_) rfl (by kernel_rfl) (by kernel_rfl) (by kernel_rfl) (fun _ _ _ h => h) (.inl ⟨by rfl, ?_⟩) (by assumption) ?_
              rotate_left 1
              · intro w0 hSw
                go_simp <;> with_reducible rfl
              try simp only [Act.put, List.getElem_toArray, List.getElem_cons_zero, List.getElem_cons_succ, List.setIfInBounds_toArray, List.set_cons_zero, List.set_cons_succ]
              refine wpAnyH_ready (rs := [11]) (by kernel_rfl) (by simp) ?_
              refine AllReadyH.cons rfl (fun K hK => ?_) AllReadyH.nil
              go_simp
              go_at_call 36
              refine (HSUM.out _).mono ?_
              rintro e w7 ⟨rfl, hb7⟩
              have b1 : Below w6.heap.size w6 w7 := b0.trans (hb7.mono b0.size)
              have HO8 := Lib.hid (HN1.out.after (b0'.trans hb7))
              have hz7 : w6.heap.size ≤ w7.heap.size := b1.size
              clear hb7
              refine hK.out _ _ (HS.out _ b1) (fun hHeld => ?_)
              clear hK K
              try simp only [Act.put, List.getElem_toArray, List.getElem_cons_zero, List.getElem_cons_succ, List.setIfInBounds_toArray, List.set_cons_zero, List.set_cons_succ]
              refine wpAnyH_ready (rs := [12]) (by kernel_rfl) (by simp) ?_
              refine AllReadyH.cons rfl (fun K hK => ?_) AllReadyH.nil
              go_simp
              have b2 : Below w6.heap.size w6 (w7.alloc (.cells #[.string sm] 9)) := b1.alloc hz7 _
              refine hK.out _ _ (HS.out _ b2) (fun hHeld => ?_)
              clear hK K
              try simp only [Act.put, List.getElem_toArray, List.getElem_cons_zero, List.getElem_cons_succ, List.setIfInBounds_toArray, List.set_cons_zero, List.set_cons_succ]
              refine wpAnyH_ready (rs := [13]) (by kernel_rfl) (by simp) ?_
              refine AllReadyH.cons rfl (fun K hK => ?_) AllReadyH.nil
              refine step_appendTs (by rfl) _ _ 30 rfl w6.heap.size Tryd.underlying30 infoStr _ N rfl (HO8.out.alloc _) ⟨w7.heap.size, 0, none⟩ 1 1 [sm] rfl rfl ?e0 ?e1 ?e2 ?_
              case e0 => exact fun j' x' h => one_at h (fun e1 e2 => by subst e1; subst e2; exact cells_new_at rfl [.string sm] 9 0 _ rfl)
              case e1 => rw [HNL.out]; have := HM.out; omega
              case e2 => simp; omega
              intro v9 w9 ho9 hg9 _
              have b4 : Below w6.heap.size w6 w9 := b2.grown hg9 (by simp; omega) (fun r e => (HO8.out.lt r e).1)
              rw [← HTS.out] at ho9
              have HO9 := Lib.hid ho9
              clear ho9 hg9 b0 b1 b2
              refine hK.out _ _ (HS.out _ b4) (fun hHeld => ?_)
              clear hK K
              try simp only [Act.put, List.getElem_toArray, List.getElem_cons_zero, List.getElem_cons_succ, List.setIfInBounds_toArray, List.set_cons_zero, List.set_cons_succ]
              refine wpAnyH_take (i := 14) (v := ?_) rfl (by kernel_rfl) (by kernel_rfl) (by kernel_rfl) (fun _ _ _ h => h) (.inl ⟨by rfl, ?_⟩) (by assumption) ?_
              rotate_left 1
              · intro w0 hSw
                go_simp <;> with_reducible rfl
              try simp only [Act.put, List.getElem_toArray, List.getElem_cons_zero, List.getElem_cons_succ, List.setIfInBounds_toArray, List.set_cons_zero, List.set_cons_succ]
              refine wpAnyH_done (by kernel_rfl) ?_ 0
              go_wp2
              go_roundw
              case rel => exact ⟨j + 1, by omega, (by have := HT.out; rw [show 2 * (j + 1) = t + 2 from by omega]; go_num), HO9.out, b4⟩
              case measure => simp [RowKit.intOf]; omega
            · obtain rfl : j = m := by omega
              have hn := HN.out
              rw [List.take_of_length_le (by rw [halfs_length, HQ.out]; have := HM.out; omega), ← HSU.out] at hn
              have HO8 := Lib.hid (hn.base HB.out.size)
              have HB8 := Lib.hid (HB.out.trans (HBj.out.mono HB.out.size))
              have hM := HM.out
              clear hn HN HBj
              rw [← hM]
              go_wp2
              go_roundw
              case rel => exact ⟨u + 1, by omega, by go_num, HO8.out, HB8.out⟩
              case measure => simp [RowKit.intOf]; omega
        · obtain rfl : u = up := by omega
          go_wp2
          go_ret
          exact ⟨_, rfl, HO.out, HB.out⟩

set_option maxRecDepth 100000 in
set_option maxHeartbeats 3200000 in
theorem sums2_any (v : Value) (xs : List ByteArray) (w : World) (hv : Strs w v xs) (h0 : xs ≠ []) (hN : xs.length ≤ 4) (hxs : ∀ x ∈ xs, x.size ≤ 1048576) :
    Calls Tryd.prog 37 #[v, .int .i64 2] w fun e w' => ∃ v', e = .returned v' ∧ OwnS w.heap.size w' v' (sumsUp (padB 2 xs) 2) ∧ Below w.heap.size w w' := by
  have hlv := fun u (hu : u ≤ 2) W (h : Strs W v xs) => level2_any v xs u W h hu h0 hN hxs
  have hpl : (padB 2 xs).length = 4 := padB_length 2 xs hN
  have hps := padB_small 2 xs hxs
  have HV := Lib.hid hv
  have HLV := Lib.hid hlv
  obtain ⟨p, c, rfl, -, -⟩ := hv
  obtain ⟨pl, hpe⟩ : ∃ pl, padB 2 xs = pl := ⟨_, rfl⟩
  rw [hpe] at hpl hps HLV ⊢
  have HPL := Lib.hid hpl
  have HPS := Lib.hid hps
  clear hlv hpl hpe h0 hxs hps
  go_enter Tryd.func37, Tryd.ntmps37
  go_wp2_with fail
  go_loopw [5, 6] (fun v i wr => ∃ u : Nat, u ≤ 2 ∧ i = .int .i64 u ∧ Aside (OwnS w.heap.size wr v (sumsUp pl u)) ∧ Aside (Below w.heap.size w wr)) (fun _ i _ => 2 - (RowKit.intOf i).toNat)
  case atStart => exact ⟨0, Nat.zero_le _, rfl, OwnS.nil _ _, Below.refl _ _⟩
  case round =>
    obtain ⟨u, hu, rfl, HO, HB⟩ := hrel
    obtain ⟨w6, hw6⟩ : ∃ w6, wr = w6 := ⟨_, rfl⟩
    rw [hw6] at HO HB ⊢
    clear hw6 wr
    by_cases hlu : u < 2
    · obtain ⟨hev, hle⟩ := lvlB_even pl 2 u HPL.out (by omega)
      have hnext : sumsUp pl (u + 1) = sumsUp pl u ++ pairsB (lvlB pl u) := rfl
      have h1 := HLV.out u (by omega) w6 (HV.out.below HB.out)
      obtain ⟨L, hL⟩ : ∃ L, lvlB pl u = L := ⟨_, rfl⟩
      have hlx := lvlB_mem pl 1048576 (by omega) HPS.out u
      rw [hL] at hev hle hnext h1 hlx
      have HLX := Lib.hid hlx
      clear hlx
      have hsb : (sumsUp pl u).length ≤ 1048576 := sumsUp_small pl 4 u (by rw [HPL.out]; omega) (by omega)
      obtain ⟨A, hA⟩ : ∃ A, sumsUp pl u = A := ⟨_, rfl⟩
      have ho := HO.out
      rw [hA] at ho hnext hsb
      obtain ⟨pv, cv, hv⟩ := ho.form
      obtain ⟨r0, hr0⟩ : ∃ r, A.length = r := ⟨_, rfl⟩
      rw [hr0] at hv hsb
      subst hv
      have HR0 := Lib.hid hr0
      clear hr0
      obtain ⟨m, hm⟩ : ∃ m, L.length / 2 = m := ⟨_, rfl⟩
      obtain ⟨q, hq⟩ : ∃ q, L.length = q := ⟨_, rfl⟩
      rw [hq] at hev hle hm
      have hm2 : q = 2 * m := by omega
      have hle' : q ≤ 16 := by omega
      have H1 := Lib.hid h1
      have HNX := Lib.hid hnext
      have HQ := Lib.hid hq
      have HM := Lib.hid hm2
      have HO1 := Lib.hid ho
      have g11 : decide ((u : Int) < 2) = true := by simp; omega
      clear hnext h1 hL hA ho hq hm hm2 HO hev hle
      go_wp2_with fail
      refine H1.out.mono ?_
      rintro e w7 ⟨vl, rfl, hol, hb7⟩
      obtain ⟨pl', cl, hvl⟩ := hol.form
      rw [HQ.out] at hvl
      have hlt7 : ∀ k, (Value.slice pl' q cl).ownBlock = some k → w6.heap.size ≤ k ∧ k < w7.heap.size := by
        rw [← hvl]; exact hol.lt
      subst hvl
      have hcells : 0 < q → ∃ g, pl' = some ⟨g, 0, none⟩ ∧ w6.heap.size ≤ g ∧ g < w7.heap.size ∧ ∀ j x, L[j]? = some x → w7.cell? ⟨g, j, none⟩ = some (.string x) := by
        intro h
        obtain ⟨g, cg, hvg, hg0, hg1, hgc, -⟩ := hol.opened (by rw [HQ.out]; exact h)
        cases hvg
        exact ⟨g, rfl, hg0, hg1, hgc⟩
      have hout : OwnS w.heap.size w7 (.slice pv r0 cv) A := HO1.out.after hb7
      have hne : ∀ k, (Value.slice pv r0 cv).ownBlock = some k → ∀ g, (Value.slice pl' q cl).ownBlock = some g → k ≠ g := fun k hk g hg => by
        have := (HO1.out.lt k hk).2
        have := (hlt7 g hg).1
        omega
      have HB7 := Lib.hid (HB.out.trans (hb7.mono HB.out.size))
      have HO7 := Lib.hid hout
      have HNE := Lib.hid hne
      have HCE := Lib.hid hcells
      clear hol hb7 hlt7 hcells hout hne HO1 HB
      go_wp2_with fail
      go_loopw [5, 8] (fun v' i wr => ∃ j : Nat, j ≤ m ∧ i = .int .i64 ((2 * j : Nat) : Int) ∧ Aside (OwnS w.heap.size wr v' (A ++ (pairsB L).take j)) ∧ Aside (Below w.heap.size w wr) ∧ Aside (∀ k, v'.ownBlock = some k → ∀ g, (Value.slice pl' q cl).ownBlock = some g → k ≠ g) ∧ Aside (w7.heap.size ≤ wr.heap.size ∧ ∀ g, (Value.slice pl' q cl).ownBlock = some g → wr.heap[g]? = w7.heap[g]?)) (fun _ i _ => q - (RowKit.intOf i).toNat)
      case atStart => exact ⟨0, Nat.zero_le _, rfl, (by rw [List.take_zero, List.append_nil]; exact HO7.out), HB7.out, HNE.out, Nat.le_refl _, fun _ _ => rfl⟩
      case round =>
        clear HO7 HB7 HNE
        obtain ⟨j, hj, rfl, HN, HBj, HD, HG⟩ := hrel
        by_cases hlj : j < m
        · obtain ⟨x, hx⟩ : ∃ x, L[2 * j]? = some x := ⟨_, List.getElem?_eq_getElem (by have := HQ.out; have := HM.out; omega)⟩
          obtain ⟨y, hy⟩ : ∃ y, L[2 * j + 1]? = some y := ⟨_, List.getElem?_eq_getElem (by have := HQ.out; have := HM.out; omega)⟩
          have g9 : ¬ 9223372036854775807 < x.size + y.size := by
            have hxs := HLX.out x (List.mem_of_getElem? hx)
            have hys := HLX.out y (List.mem_of_getElem? hy)
            omega
          have hts := pairsB_take L j x y (by have := HQ.out; have := HM.out; omega) hx hy
          obtain ⟨g, rfl, hg0, hg1, hgc⟩ := HCE.out (by have := HM.out; omega)
          have hgr := HG.out.2 g rfl
          have hgs : g < wr.heap.size := Nat.lt_of_lt_of_le hg1 HG.out.1
          have hn := HN.out
          have hnl : (A ++ (pairsB L).take j).length ≤ 2097152 := by rw [List.length_append, List.length_take, pairsB_length]; have := HQ.out; have := HR0.out; omega
          have htt : A ++ (pairsB L).take (j + 1) = (A ++ (pairsB L).take j) ++ [x ++ y] := by rw [hts, List.append_assoc]
          obtain ⟨N, hN'⟩ : ∃ N, A ++ (pairsB L).take j = N := ⟨_, rfl⟩
          obtain ⟨xy, hxy⟩ : ∃ xy, x ++ y = xy := ⟨_, rfl⟩
          rw [hN', hxy] at htt
          rw [hN'] at hnl hn
          obtain ⟨pn, cn, hvn⟩ := hn.form
          obtain ⟨r1, hr1⟩ : ∃ r, N.length = r := ⟨_, rfl⟩
          rw [hr1] at hvn hnl
          subst hvn
          have HR1 := Lib.hid hr1
          have hdd : ∀ k, (Value.slice pn r1 cn).ownBlock = some k → k ≠ g := fun k hk => HD.out k hk g rfl
          obtain ⟨t, ht⟩ : ∃ t, 2 * j = t := ⟨_, rfl⟩
          have htq : t + 1 < q := by have := HM.out; omega
          rw [ht] at hx hy ⊢
          have hS : ∀ W' : World, W'.heap[g]? = wr.heap[g]? → W'.cell? ⟨g, t, none⟩ = some (.string x) ∧ W'.cell? ⟨g, t + 1, none⟩ = some (.string y) := fun W' hb =>
            ⟨(World.cell?_of_block (a := ⟨g, t, none⟩) (hb.trans hgr)).trans (hgc _ _ hx), (World.cell?_of_block (a := ⟨g, t + 1, none⟩) (hb.trans hgr)).trans (hgc _ _ hy)⟩
          have HS := Lib.hid hS
          have HTT := Lib.hid htt
          have HNL := Lib.hid hnl
          have HXY := Lib.hid hxy
          have HN1 := Lib.hid (show OwnS w.heap.size wr.drew (.slice pn r1 cn) N from hn.of_block (fun _ _ => rfl))
          have HT := Lib.hid ht
          have HGR := Lib.hid hgr
          have HDD := Lib.hid hdd
          have HBD := Lib.hid (HBj.out.drew)
          have hzw : w.heap.size ≤ wr.heap.size := HBj.out.size
          have g1 : (0 : Int) ≤ t := by omega
          have g2 : (t : Int) < q := by omega
          have g3 : IntKind.i64.wrap ((t : Int) + 1) = (t : Int) + 1 := IntWalk.i64_in _ (by omega)
          have g4 : (0 : Int) ≤ (t : Int) + 1 := by omega
          have g5 : (t : Int) + 1 < q := by omega
          have g6 : ((t : Int) + 1).toNat = t + 1 := by omega
          have g7 : IntKind.i64.wrap ((t : Int) + 2) = (t : Int) + 2 := IntWalk.i64_in _ (by omega)
          clear hS hts htt hnl hn hN' hr1 hxy hx hy hgc hgr hdd HN HD ht
          go_wp2_with fail
          refine wp_region_held_drew (S := (fun W => W.cell? ⟨g, t, none⟩ = some (.string x) ∧ W.cell? ⟨g, t + 1, none⟩ = some (.string y))) (by kernel_rfl) (HS.out _ rfl) (fun hHeld => ?_)
          refine wpAnyH_take (i := 0) (v := ?_) rfl (by kernel_rfl) (by kernel_rfl) (by kernel_rfl) (fun _ _ _ h => h) (.inl ⟨by rfl, ?_⟩) (by assumption) ?_
          rotate_left 1
          · intro w0 hSw
            go_simp <;> with_reducible rfl
          try simp only [Act.put, List.getElem_toArray, List.getElem_cons_zero, List.setIfInBounds_toArray, List.set_cons_zero, List.set_cons_succ]
          refine wpAnyH_take (i := 1) (v := ?_) rfl (by kernel_rfl) (by kernel_rfl) (by kernel_rfl) (fun _ _ _ h => h) (.inl ⟨by rfl, ?_⟩) (by assumption) ?_
          rotate_left 1
          · intro w0 hSw
            go_simp <;> with_reducible rfl
          try simp only [Act.put, List.getElem_toArray, List.getElem_cons_zero, List.getElem_cons_succ, List.setIfInBounds_toArray, List.set_cons_zero, List.set_cons_succ]
          refine wpAnyH_take (i := 2) (v := ?_) rfl (by kernel_rfl) (by kernel_rfl) (by kernel_rfl) (fun _ _ _ h => h) (.inl ⟨by rfl, ?_⟩) (by assumption) ?_
          rotate_left 1
          · intro w0 hSw
            go_simp <;> with_reducible rfl
          try simp only [Act.put, List.getElem_toArray, List.getElem_cons_zero, List.getElem_cons_succ, List.setIfInBounds_toArray, List.set_cons_zero, List.set_cons_succ]
          refine wpAnyH_take (i := 3) (v := ?_) rfl (by kernel_rfl) (by kernel_rfl) (by kernel_rfl) (fun _ _ _ h => h) (.inl ⟨by rfl, ?_⟩) (by assumption) ?_
          rotate_left 1
          · intro w0 hSw
            go_simp <;> with_reducible rfl
          try simp only [Act.put, List.getElem_toArray, List.getElem_cons_zero, List.getElem_cons_succ, List.setIfInBounds_toArray, List.set_cons_zero, List.set_cons_succ]
          refine wpAnyH_take (i := 4) (v := ?_) rfl (by kernel_rfl) (by kernel_rfl) (by kernel_rfl) (fun _ _ _ h => h) (.inl ⟨by rfl, ?_⟩) (by assumption) ?_
          rotate_left 1
          · intro w0 hSw
            obtain ⟨z0, z1⟩ := hSw
            go_simp <;> with_reducible rfl
          try simp only [Act.put, List.getElem_toArray, List.getElem_cons_zero, List.getElem_cons_succ, List.setIfInBounds_toArray, List.set_cons_zero, List.set_cons_succ]
          refine wpAnyH_take (i := 5) (v := ?_) rfl (by kernel_rfl) (by kernel_rfl) (by kernel_rfl) (fun _ _ _ h => h) (.inl ⟨by rfl, ?_⟩) (by assumption) ?_
          rotate_left 1
          · intro w0 hSw
            go_simp <;> with_reducible rfl
          try simp only [Act.put, List.getElem_toArray, List.getElem_cons_zero, List.getElem_cons_succ, List.setIfInBounds_toArray, List.set_cons_zero, List.set_cons_succ]
          refine wpAnyH_take (i := 6) (v := ?_) rfl (by kernel_rfl) (by kernel_rfl) (by kernel_rfl) (fun _ _ _ h => h) (.inl ⟨by rfl, ?_⟩) (by assumption) ?_
          rotate_left 1
          · intro w0 hSw
            go_simp <;> with_reducible rfl
          try simp only [Act.put, List.getElem_toArray, List.getElem_cons_zero, List.getElem_cons_succ, List.setIfInBounds_toArray, List.set_cons_zero, List.set_cons_succ]
          refine wpAnyH_take (i := 7) (v := ?_) rfl (by kernel_rfl) (by kernel_rfl) (by kernel_rfl) (fun _ _ _ h => h) (.inl ⟨by rfl, ?_⟩) (by assumption) ?_
          rotate_left 1
          · intro w0 hSw
            go_simp <;> with_reducible rfl
          try simp only [Act.put, List.getElem_toArray, List.getElem_cons_zero, List.getElem_cons_succ, List.setIfInBounds_toArray, List.set_cons_zero, List.set_cons_succ]
          refine wpAnyH_take (i := 8) (v := ?_) rfl (by kernel_rfl) (by kernel_rfl) (by kernel_rfl) (fun _ _ _ h => h) (.inl ⟨by rfl, ?_⟩) (by assumption) ?_
          rotate_left 1
          · intro w0 hSw
            go_simp <;> with_reducible rfl
          try simp only [Act.put, List.getElem_toArray, List.getElem_cons_zero, List.getElem_cons_succ, List.setIfInBounds_toArray, List.set_cons_zero, List.set_cons_succ]
          refine wpAnyH_take (i := 9) (v := ?_) rfl (by kernel_rfl) (by kernel_rfl) (by kernel_rfl) (fun _ _ _ h => h) (.inl ⟨by rfl, ?_⟩) (by assumption) ?_
          rotate_left 1
          · intro w0 hSw
            obtain ⟨z0, z1⟩ := hSw
            go_simp <;> with_reducible rfl
          try simp only [Act.put, List.getElem_toArray, List.getElem_cons_zero, List.getElem_cons_succ, List.setIfInBounds_toArray, List.set_cons_zero, List.set_cons_succ]
          refine wpAnyH_take (i := 10) (v := ?_) rfl (by kernel_rfl) (by kernel_rfl) (by kernel_rfl) (fun _ _ _ h => h) (.inl ⟨by rfl, ?_⟩) (by assumption) ?_
          rotate_left 1
          · intro w0 hSw
            go_simp <;> with_reducible rfl
          try simp only [Act.put, List.getElem_toArray, List.getElem_cons_zero, List.getElem_cons_succ, List.setIfInBounds_toArray, List.set_cons_zero, List.set_cons_succ]
          rw [HXY.out]
          refine wpAnyH_ready (rs := [11]) (by kernel_rfl) (by simp) ?_
          refine AllReadyH.cons rfl (fun K hK => ?_) AllReadyH.nil
          go_simp
          have e1 : (wr.drew.alloc (.cells #[.string xy] 9)).heap[g]? = wr.heap[g]? := Below.heap_alloc _ _ _ hgs
          refine hK.out _ _ (HS.out _ e1) (fun hHeld => ?_)
          clear hK K
          try simp only [Act.put, List.getElem_toArray, List.getElem_cons_zero, List.getElem_cons_succ, List.setIfInBounds_toArray, List.set_cons_zero, List.set_cons_succ]
          refine wpAnyH_ready (rs := [12]) (by kernel_rfl) (by simp) ?_
          refine AllReadyH.cons rfl (fun K hK => ?_) AllReadyH.nil
          refine step_appendTs (by rfl) _ _ 30 rfl w.heap.size Tryd.underlying30 infoStr _ N rfl (HN1.out.alloc _) ⟨wr.drew.heap.size, 0, none⟩ 1 1 [xy] rfl rfl ?e0 ?e1 ?e2 ?_
          case e0 => exact fun j' x' h => one_at h (fun e1 e2 => by subst e1; subst e2; exact cells_new_at rfl [.string xy] 9 0 _ rfl)
          case e1 => have := HNL.out; rw [HR1.out]; omega
          case e2 => simp; omega
          intro v9 w9 ho9 hg9 hp9
          have hgn : w9.heap[g]? = wr.heap[g]? := (hg9.block g (by simp; omega) (fun e => HDD.out g e.symm rfl)).trans e1
          have HB9 := Lib.hid ((HBD.out.alloc hzw _).grown hg9 (by simp; omega) (fun r e => (HN1.out.lt r e).1))
          have HG9 := Lib.hid (show w7.heap.size ≤ w9.heap.size ∧ ∀ g', (Value.slice (some ⟨g, 0, none⟩) q cl).ownBlock = some g' → w9.heap[g']? = w7.heap[g']? from ⟨by have h1 := hg9.size; have h2 := HG.out.1; simp at h1; omega, fun g' e => by cases e; exact hgn.trans HGR.out⟩)
          have HD9 := Lib.hid (show ∀ k, v9.ownBlock = some k → ∀ g', (Value.slice (some ⟨g, 0, none⟩) q cl).ownBlock = some g' → k ≠ g' from fun k hk g' e => by cases e; exact hp9.elim (fun hp => HDD.out k (hp.symm.trans hk)) (fun hp hkg => absurd (Nat.le_trans (hp k hk) (Nat.le_of_eq hkg)) (by show ¬ (wr.alloc _).heap.size ≤ g; rw [World.size_alloc]; omega)))
          rw [← HTT.out] at ho9
          have HO9 := Lib.hid ho9
          clear ho9 hg9 hp9 e1
          refine hK.out _ _ (HS.out _ hgn) (fun hHeld => ?_)
          clear hK K
          try simp only [Act.put, List.getElem_toArray, List.getElem_cons_zero, List.getElem_cons_succ, List.setIfInBounds_toArray, List.set_cons_zero, List.set_cons_succ]
          refine wpAnyH_take (i := 13) (v := ?_) rfl (by kernel_rfl) (by kernel_rfl) (by kernel_rfl) (fun _ _ _ h => h) (.inl ⟨by rfl, ?_⟩) (by assumption) ?_
          rotate_left 1
          · intro w0 hSw
            go_simp <;> with_reducible rfl
          try simp only [Act.put, List.getElem_toArray, List.getElem_cons_zero, List.getElem_cons_succ, List.setIfInBounds_toArray, List.set_cons_zero, List.set_cons_succ]
          refine wpAnyH_done (by kernel_rfl) ?_ 0
          go_wp2
          go_roundw
          case rel => exact ⟨j + 1, by omega, (by have := HT.out; rw [show 2 * (j + 1) = t + 2 from by omega]; go_num), HO9.out, HB9.out, HD9.out, HG9.out⟩
          case measure => simp [RowKit.intOf]; omega
        · obtain rfl : j = m := by omega
          have hn := HN.out
          rw [List.take_of_length_le (by rw [pairsB_length, HQ.out]; have := HM.out; omega), ← HNX.out] at hn
          have HO8 := Lib.hid hn
          have hM := HM.out
          clear hn HN
          rw [← hM]
          go_wp2
          go_roundw
          case rel => exact ⟨u + 1, by omega, by go_num, HO8.out, HBj.out⟩
          case measure => simp [RowKit.intOf]; omega
    · obtain rfl : u = 2 := by omega
      go_wp2
      go_ret
      exact ⟨_, rfl, HO.out, HB.out⟩

set_option maxRecDepth 100000 in
set_option maxHeartbeats 3200000 in
theorem rright2_any (v : Value) (xs : List ByteArray) (w : World) (hv : Strs w v xs) (hN : xs.length ≤ 1048576) :
    Calls Tryd.prog 82 #[v, .int .i64 2] w fun e w' => e = .returned (.bool (rightB xs 2)) ∧ w' = w := by
  obtain ⟨p, c, rfl, hc, hcell⟩ := hv
  have hrb : ∀ b, xs.any noChunk = b → rightB xs 2 = (decide (xs.length ≤ 4) && !b) := fun b hb => by unfold rightB; rw [hb]
  have HRB := Lib.hid hrb
  have HC := Lib.hid hcell
  obtain ⟨n, hn⟩ : ∃ n, xs.length = n := ⟨_, rfl⟩
  rw [hn] at hN hc HRB ⊢
  have HN := Lib.hid hn
  clear hcell hrb hn
  by_cases hle : n ≤ 4
  · have g1 : decide ((4 : Int) < n) = false := by simp; omega
    have g2 : decide ((256 : Int) < n) = false := by simp; omega
    have HR1 := Lib.hid (fun b hb => (HRB.out b hb).trans (by rw [decide_eq_true hle, Bool.true_and]))
    obtain ⟨R, hR⟩ : ∃ R, rightB xs 2 = R := ⟨_, rfl⟩
    rw [hR] at HR1 ⊢
    clear HRB hR
    go_enter Tryd.func82, Tryd.ntmps82
    go_wp2_with fail
    go_loopw [5] (fun i wr => ∃ k : Nat, k ≤ n ∧ i = .int .i64 k ∧ wr = w ∧ Aside (∀ j x, j < k → xs[j]? = some x → noChunk x = false)) (fun i _ => n - (RowKit.intOf i).toNat)
    case atStart => exact ⟨0, Nat.zero_le _, rfl, rfl, fun _ _ h => absurd h (Nat.not_lt_zero _)⟩
    case round =>
      obtain ⟨k, hk, rfl, rfl, HS⟩ := hrel
      by_cases hlt : k < n
      · obtain ⟨x, hx⟩ : ∃ x, xs[k]? = some x := ⟨_, List.getElem?_eq_getElem (by rw [HN.out]; exact hlt)⟩
        obtain ⟨bk, o, rfl, hbk, hcl⟩ : ∃ bk o, p = some ⟨bk, o, none⟩ ∧ bk < wr.heap.size ∧ ∀ (j : Nat) x, xs[j]? = some x → wr.cell? ⟨bk, o + j, none⟩ = some (.string x) := by
          rcases HC.out with h | ⟨bk, o, h1, h2, h3⟩
          · rw [h] at hx; cases hx
          · exact ⟨bk, o, h1, h2, h3⟩
        have c0 := hcl k x hx
        have g3 : (0 : Int) ≤ k := by omega
        have g4 : (k : Int) < n := by omega
        have HX := Lib.hid hx
        clear hcl hx
        by_cases h32 : x.size = 32
        · have g5 : ((x.size : Int) != 32) = false := by rw [bne_eq_false_iff_eq]; omega
          go_wp2
          go_roundw
          case rel => exact ⟨k + 1, by omega, by go_num, trivial, (fun j y hj hy => by
            rcases Nat.lt_succ_iff_lt_or_eq.1 hj with h | rfl
            · exact HS.out j y h hy
            · rw [HX.out] at hy
              cases hy
              unfold noChunk
              simp [h32])⟩
          case measure => simp [RowKit.intOf]; omega
        · have g5 : ((x.size : Int) != 32) = true := by rw [bne_iff_ne]; omega
          have hany : xs.any noChunk = true := anyB_hit HX.out (by unfold noChunk; simp [h32])
          have hr := HR1.out true hany
          go_wp2
          go_ret
          exact ⟨by rw [hr]; rfl, rfl⟩
      · obtain rfl : k = n := by omega
        have hany : xs.any noChunk = false := anyB_miss (fun j x hj hx => HS.out j x (by rw [HN.out] at hj; exact hj) hx)
        have hr := HR1.out false hany
        go_wp2
        go_ret
        exact ⟨by rw [hr]; rfl, rfl⟩
  · have g1 : decide ((4 : Int) < n) = true := by simp; omega
    have hr := HRB.out _ rfl
    rw [decide_eq_false hle, Bool.false_and] at hr
    rw [hr]
    clear HRB hr
    go_enter Tryd.func82, Tryd.ntmps82
    go_wp2
    go_ret
    exact ⟨rfl, rfl⟩

/-- what Root gives -/
def rrootV2 (xs : List ByteArray) : Value := if rightB xs 2 then .tuple #[.string (rootB 2 xs noughtB), .int .i64 0] else .tuple #[.string ⟨#[]⟩, .int .i64 80]
set_option maxRecDepth 100000 in
set_option maxHeartbeats 3200000 in
theorem rroot2_any (v : Value) (xs : List ByteArray) (w : World) (hv : Strs w v xs) (h0 : xs ≠ []) (hN : xs.length ≤ 1048576) :
    Calls Tryd.prog 40 #[v, .int .i64 2] w fun e w' => e = .returned (rrootV2 xs) ∧ Below w.heap.size w w' := by
  have hr := rright2_any v xs w hv hN
  have hv' := hv
  obtain ⟨p, c, rfl, -⟩ := hv
  unfold rrootV2
  cases hb : rightB xs 2 with
  | true =>
    rw [hb] at hr
    obtain ⟨hl, hs⟩ := rightB_chunks hb
    have hlv := level2_any _ xs 2 w hv' (Nat.le_refl _) h0 hl (fun x hx => by have := hs x hx; omega)
    rw [padB_root 2 xs hl] at hlv
    obtain ⟨r, hrr⟩ : ∃ r, rootB 2 xs noughtB = r := ⟨_, rfl⟩
    rw [hrr] at hlv ⊢
    simp only [if_true]
    have HR := Lib.hid hr
    have HL := Lib.hid hlv
    clear hr hlv hrr hl hs hb hv' h0 hN
    go_enter Tryd.func40, Tryd.ntmps40
    go_wp2_with fail
    refine HR.out.mono ?_
    rintro e w1 ⟨rfl, rfl⟩
    go_wp2_with fail
    refine HL.out.mono ?_
    rintro e w2 ⟨v2, rfl, ho2, hb2⟩
    obtain ⟨g, c2, hv2, -, -, hc2, -⟩ := ho2.opened (by simp)
    subst hv2
    have c0 := hc2 0 r rfl
    clear hc2 ho2
    go_wp2
    go_ret2
    exact ⟨rfl, hb2⟩
  | false =>
    rw [hb] at hr
    simp only [Bool.false_eq_true, if_false]
    have HR := Lib.hid hr
    clear hr hb hv' h0 hN
    go_enter Tryd.func40, Tryd.ntmps40
    go_wp2_with fail
    refine HR.out.mono ?_
    rintro e w1 ⟨rfl, rfl⟩
    go_wp2
    go_ret2
    exact ⟨rfl, Below.refl _ _⟩

theorem execChunks_small {n : Nat} {a b : ByteArray} (ha : a.size ≤ 1048576) (hb : b.size ≤ 1048576) : ∀ x ∈ execChunks a b n, x.size ≤ 1048576 := by
  intro x hx
  unfold execChunks at hx
  simp only [List.mem_cons, List.not_mem_nil, or_false] at hx
  rcases hx with rfl | rfl | rfl
  · exact ha
  · exact hb
  · rw [numL_size]; omega
set_option maxRecDepth 100000 in
set_option maxHeartbeats 3200000 in
theorem rexecSums_any (a b : ByteArray) (n : Nat) (w : World) (hn : n < 18446744073709551616) (ha : a.size ≤ 1048576) (hb : b.size ≤ 1048576) :
    Calls Tryd.prog 17 #[.agg #[.string a, .string b, .int .u64 n]] w fun e w' => ∃ v', e = .returned v' ∧ OwnS w.heap.size w' v' (sumsUp (padB 2 (execChunks a b n)) 2) ∧ Below w.heap.size w w' := by
  have hR := fun v W (h : Strs W v (execChunks a b n)) => sums2_any v (execChunks a b n) W h (by simp [execChunks]) (by simp [execChunks]) (execChunks_small ha hb)
  unfold execChunks at hR ⊢
  have hN := fun W => rnumber_any n W hn
  obtain ⟨x, hx⟩ : ∃ x : ByteArray, ⟨(numL n).toArray⟩ = x := ⟨_, rfl⟩
  rw [hx] at hN hR ⊢
  obtain ⟨R, hRR⟩ : ∃ R, sumsUp (padB 2 [a, b, x]) 2 = R := ⟨_, rfl⟩
  rw [hRR] at hR ⊢
  clear hRR ha hb
  have HN := Lib.hid hN
  clear hN hx hn
  go_enter Tryd.func17, Tryd.ntmps17
  go_wp2_with fail
  obtain ⟨w3, hw3⟩ : ∃ w3, w.alloc (.cells #[.string a, .string b, .int .u64 n] 34) = w3 := ⟨_, rfl⟩
  have HB3 := Lib.hid ((Below.refl w.heap.size w).alloc (Nat.le_refl _) (.cells #[.string a, .string b, .int .u64 n] 34))
  have hc0 : ∀ j u, [Value.string a, .string b, .int .u64 n][j]? = some u → (w.alloc (.cells #[.string a, .string b, .int .u64 n] 34)).cell? ⟨w.heap.size, j, none⟩ = some u := fun j u h => by
    rw [World.cell?_alloc_mark]; simpa using h
  have hk : w.heap.size < (w.alloc (.cells #[.string a, .string b, .int .u64 n] 34)).heap.size := by simp
  rw [hw3] at HB3 hc0 hk ⊢
  have HS := Lib.hid (fun W' (hb : Below w3.heap.size w3 W') => (show W'.cell? ⟨w.heap.size, 0, none⟩ = some (.string a) ∧ W'.cell? ⟨w.heap.size, 1, none⟩ = some (.string b) ∧ W'.cell? ⟨w.heap.size, 2, none⟩ = some (.int .u64 n) from
    ⟨(hb.cell (p := ⟨w.heap.size, 0, none⟩) hk).trans (hc0 0 _ rfl), (hb.cell (p := ⟨w.heap.size, 1, none⟩) hk).trans (hc0 1 _ rfl), (hb.cell (p := ⟨w.heap.size, 2, none⟩) hk).trans (hc0 2 _ rfl)⟩))
  clear hw3 hc0 hk
  have b3 : Below w3.heap.size w3 w3.drew := (Below.refl _ _).drew
  refine wp_region_held_drew (S := (fun W => W.cell? ⟨w.heap.size, 0, none⟩ = some (.string a) ∧ W.cell? ⟨w.heap.size, 1, none⟩ = some (.string b) ∧ W.cell? ⟨w.heap.size, 2, none⟩ = some (.int .u64 n))) (by kernel_rfl) (HS.out _ b3) (fun hHeld => ?_)
  refine wpAnyH_take (i := 0) (v := ?_) rfl (by kernel_rfl) (by kernel_rfl) (by kernel_rfl) (fun _ _ _ h => h) (.inl ⟨by rfl, ?_⟩) (by assumption) ?_
  rotate_left 1
  · intro w0 hSw
    go_simp <;> with_reducible rfl
  try simp only [Act.put, List.getElem_toArray, List.getElem_cons_zero, List.setIfInBounds_toArray, List.set_cons_zero, List.set_cons_succ]
  refine wpAnyH_take (i := 1) (v := ?_) rfl (by kernel_rfl) (by kernel_rfl) (by kernel_rfl) (fun _ _ _ h => h) (.inl ⟨by rfl, ?_⟩) (by assumption) ?_
  rotate_left 1
  · intro w0 hSw
    obtain ⟨z0, z1, z2⟩ := hSw
    go_simp <;> with_reducible rfl
  try simp only [Act.put, List.getElem_toArray, List.getElem_cons_zero, List.getElem_cons_succ, List.setIfInBounds_toArray, List.set_cons_zero, List.set_cons_succ]
  refine wpAnyH_take (i := 2) (v := ?_) rfl (by kernel_rfl) (by kernel_rfl) (by kernel_rfl) (fun _ _ _ h => h) (.inl ⟨by rfl, ?_⟩) (by assumption) ?_
  rotate_left 1
  · intro w0 hSw
    go_simp <;> with_reducible rfl
  try simp only [Act.put, List.getElem_toArray, List.getElem_cons_zero, List.getElem_cons_succ, List.setIfInBounds_toArray, List.set_cons_zero, List.set_cons_succ]
  refine wpAnyH_take (i := 3) (v := ?_) rfl (by kernel_rfl) (by kernel_rfl) (by kernel_rfl) (fun _ _ _ h => h) (.inl ⟨by rfl, ?_⟩) (by assumption) ?_
  rotate_left 1
  · intro w0 hSw
    obtain ⟨z0, z1, z2⟩ := hSw
    go_simp <;> with_reducible rfl
  try simp only [Act.put, List.getElem_toArray, List.getElem_cons_zero, List.getElem_cons_succ, List.setIfInBounds_toArray, List.set_cons_zero, List.set_cons_succ]
  refine wpAnyH_take (i := 4) (v := ?_) rfl (by kernel_rfl) (by kernel_rfl) (by kernel_rfl) (fun _ _ _ h => h) (.inl ⟨by rfl, ?_⟩) (by assumption) ?_
  rotate_left 1
  · intro w0 hSw
    go_simp <;> with_reducible rfl
  try simp only [Act.put, List.getElem_toArray, List.getElem_cons_zero, List.getElem_cons_succ, List.setIfInBounds_toArray, List.set_cons_zero, List.set_cons_succ]
  refine wpAnyH_take (i := 5) (v := ?_) rfl (by kernel_rfl) (by kernel_rfl) (by kernel_rfl) (fun _ _ _ h => h) (.inl ⟨by rfl, ?_⟩) (by assumption) ?_
  rotate_left 1
  · intro w0 hSw
    obtain ⟨z0, z1, z2⟩ := hSw
    go_simp <;> with_reducible rfl
  try simp only [Act.put, List.getElem_toArray, List.getElem_cons_zero, List.getElem_cons_succ, List.setIfInBounds_toArray, List.set_cons_zero, List.set_cons_succ]
  refine wpAnyH_ready (rs := [6]) (by kernel_rfl) (by simp) ?_
  refine AllReadyH.cons rfl (fun K hK => ?_) AllReadyH.nil
  go_simp
  go_at_call 41
  refine (HN.out _).mono ?_
  rintro e w4 ⟨rfl, hb4⟩
  have b4 : Below w3.heap.size w3 w4 := b3.trans (hb4.mono b3.size)
  clear hb4
  refine hK.out _ _ (HS.out _ b4) (fun hHeld => ?_)
  clear hK K
  try simp only [Act.put, List.getElem_toArray, List.getElem_cons_zero, List.getElem_cons_succ, List.setIfInBounds_toArray, List.set_cons_zero, List.set_cons_succ]
  refine wpAnyH_ready (rs := [7]) (by kernel_rfl) (by simp) ?_
  refine AllReadyH.cons rfl (fun K hK => ?_) AllReadyH.nil
  go_simp
  have b6 : Below w3.heap.size w3 (w4.alloc (.cells #[.string a, .string b, .string x] 9)) := b4.alloc b4.size _
  have HC := Lib.hid (hR _ _ (strs_new w4 [a, b, x] 3 rfl))
  refine hK.out _ _ (HS.out _ b6) (fun hHeld => ?_)
  clear hK K
  try simp only [Act.put, List.getElem_toArray, List.getElem_cons_zero, List.getElem_cons_succ, List.setIfInBounds_toArray, List.set_cons_zero, List.set_cons_succ]
  refine wpAnyH_ready (rs := [8]) (by kernel_rfl) (by simp) ?_
  refine AllReadyH.cons rfl (fun K hK => ?_) AllReadyH.nil
  go_simp
  go_at_call 37
  refine (HC.out).mono ?_
  rintro e w7 ⟨v7, rfl, ho7, hb7⟩
  have b7 : Below w3.heap.size w3 w7 := b6.trans (hb7.mono b6.size)
  have HO7 := Lib.hid (ho7.base (b' := w.heap.size) (Nat.le_trans HB3.out.size b6.size))
  clear hb7 ho7
  refine hK.out _ _ (HS.out _ b7) (fun hHeld => ?_)
  clear hK K
  try simp only [Act.put, List.getElem_toArray, List.getElem_cons_zero, List.getElem_cons_succ, List.setIfInBounds_toArray, List.set_cons_zero, List.set_cons_succ]
  refine wpAnyH_take (i := 9) (v := ?_) rfl (by kernel_rfl) (by kernel_rfl) (by kernel_rfl) (fun _ _ _ h => h) (.inl ⟨by rfl, ?_⟩) (by assumption) ?_
  rotate_left 1
  · intro w0 hSw
    go_simp <;> with_reducible rfl
  try simp only [Act.put, List.getElem_toArray, List.getElem_cons_zero, List.getElem_cons_succ, List.setIfInBounds_toArray, List.set_cons_zero, List.set_cons_succ]
  refine wpAnyH_done (by kernel_rfl) ?_ 0
  go_wp2
  go_ret
  exact ⟨_, rfl, HO7.out, HB3.out.trans (b7.mono HB3.out.size)⟩
/-- what ExecRoot gives -/
def rexecV (xs : List ByteArray) : Value := if rightB xs 2 then .tuple #[.string (rootB 2 xs noughtB), .int .i64 0] else .tuple #[.string ⟨#[]⟩, .int .i64 130]
set_option maxRecDepth 100000 in
set_option maxHeartbeats 3200000 in
theorem rexecRoot_good (a b : ByteArray) (n : Nat) (w : World) (hn : n < 18446744073709551616) (hgood : rightB (execChunks a b n) 2 = true) :
    Calls Tryd.prog 15 #[.agg #[.string a, .string b, .int .u64 n]] w fun e w' => e = .returned (.tuple #[.string (rootB 2 (execChunks a b n) noughtB), .int .i64 0]) ∧ Below w.heap.size w w' := by
  have hR := fun v W (h : Strs W v (execChunks a b n)) => rroot2_any v (execChunks a b n) W h (by simp [execChunks]) (by simp [execChunks])
  unfold rrootV2 at hR
  rw [hgood] at hR
  simp only [if_true] at hR
  unfold execChunks at hR ⊢
  have hN := fun W => rnumber_any n W hn
  obtain ⟨x, hx⟩ : ∃ x : ByteArray, ⟨(numL n).toArray⟩ = x := ⟨_, rfl⟩
  rw [hx] at hN hR ⊢
  obtain ⟨R, hRR⟩ : ∃ R, rootB 2 [a, b, x] noughtB = R := ⟨_, rfl⟩
  rw [hRR] at hR ⊢
  clear hRR hgood
  have HN := Lib.hid hN
  clear hN hx hn
  go_enter Tryd.func15, Tryd.ntmps15
  go_wp2_with fail
  obtain ⟨w3, hw3⟩ : ∃ w3, w.alloc (.cells #[.string a, .string b, .int .u64 n] 34) = w3 := ⟨_, rfl⟩
  have HB3 := Lib.hid ((Below.refl w.heap.size w).alloc (Nat.le_refl _) (.cells #[.string a, .string b, .int .u64 n] 34))
  have hc0 : ∀ j u, [Value.string a, .string b, .int .u64 n][j]? = some u → (w.alloc (.cells #[.string a, .string b, .int .u64 n] 34)).cell? ⟨w.heap.size, j, none⟩ = some u := fun j u h => by
    rw [World.cell?_alloc_mark]; simpa using h
  have hk : w.heap.size < (w.alloc (.cells #[.string a, .string b, .int .u64 n] 34)).heap.size := by simp
  rw [hw3] at HB3 hc0 hk ⊢
  have HS := Lib.hid (fun W' (hb : Below w3.heap.size w3 W') => (show W'.cell? ⟨w.heap.size, 0, none⟩ = some (.string a) ∧ W'.cell? ⟨w.heap.size, 1, none⟩ = some (.string b) ∧ W'.cell? ⟨w.heap.size, 2, none⟩ = some (.int .u64 n) from
    ⟨(hb.cell (p := ⟨w.heap.size, 0, none⟩) hk).trans (hc0 0 _ rfl), (hb.cell (p := ⟨w.heap.size, 1, none⟩) hk).trans (hc0 1 _ rfl), (hb.cell (p := ⟨w.heap.size, 2, none⟩) hk).trans (hc0 2 _ rfl)⟩))
  clear hw3 hc0 hk
  have b3 : Below w3.heap.size w3 w3.drew := (Below.refl _ _).drew
  refine wp_region_held_drew (S := (fun W => W.cell? ⟨w.heap.size, 0, none⟩ = some (.string a) ∧ W.cell? ⟨w.heap.size, 1, none⟩ = some (.string b) ∧ W.cell? ⟨w.heap.size, 2, none⟩ = some (.int .u64 n))) (by kernel_rfl) (HS.out _ b3) (fun hHeld => ?_)
  refine wpAnyH_take (i := 0) (v := ?_) rfl (by kernel_rfl) (by kernel_rfl) (by kernel_rfl) (fun _ _ _ h => h) (.inl ⟨by rfl, ?_⟩) (by assumption) ?_
  rotate_left 1
  · intro w0 hSw
    go_simp <;> with_reducible rfl
  try simp only [Act.put, List.getElem_toArray, List.getElem_cons_zero, List.setIfInBounds_toArray, List.set_cons_zero, List.set_cons_succ]
  refine wpAnyH_take (i := 1) (v := ?_) rfl (by kernel_rfl) (by kernel_rfl) (by kernel_rfl) (fun _ _ _ h => h) (.inl ⟨by rfl, ?_⟩) (by assumption) ?_
  rotate_left 1
  · intro w0 hSw
    obtain ⟨z0, z1, z2⟩ := hSw
    go_simp <;> with_reducible rfl
  try simp only [Act.put, List.getElem_toArray, List.getElem_cons_zero, List.getElem_cons_succ, List.setIfInBounds_toArray, List.set_cons_zero, List.set_cons_succ]
  refine wpAnyH_take (i := 2) (v := ?_) rfl (by kernel_rfl) (by kernel_rfl) (by kernel_rfl) (fun _ _ _ h => h) (.inl ⟨by rfl, ?_⟩) (by assumption) ?_
  rotate_left 1
  · intro w0 hSw
    go_simp <;> with_reducible rfl
  try simp only [Act.put, List.getElem_toArray, List.getElem_cons_zero, List.getElem_cons_succ, List.setIfInBounds_toArray, List.set_cons_zero, List.set_cons_succ]
  refine wpAnyH_take (i := 3) (v := ?_) rfl (by kernel_rfl) (by kernel_rfl) (by kernel_rfl) (fun _ _ _ h => h) (.inl ⟨by rfl, ?_⟩) (by assumption) ?_
  rotate_left 1
  · intro w0 hSw
    obtain ⟨z0, z1, z2⟩ := hSw
    go_simp <;> with_reducible rfl
  try simp only [Act.put, List.getElem_toArray, List.getElem_cons_zero, List.getElem_cons_succ, List.setIfInBounds_toArray, List.set_cons_zero, List.set_cons_succ]
  refine wpAnyH_take (i := 4) (v := ?_) rfl (by kernel_rfl) (by kernel_rfl) (by kernel_rfl) (fun _ _ _ h => h) (.inl ⟨by rfl, ?_⟩) (by assumption) ?_
  rotate_left 1
  · intro w0 hSw
    go_simp <;> with_reducible rfl
  try simp only [Act.put, List.getElem_toArray, List.getElem_cons_zero, List.getElem_cons_succ, List.setIfInBounds_toArray, List.set_cons_zero, List.set_cons_succ]
  refine wpAnyH_take (i := 5) (v := ?_) rfl (by kernel_rfl) (by kernel_rfl) (by kernel_rfl) (fun _ _ _ h => h) (.inl ⟨by rfl, ?_⟩) (by assumption) ?_
  rotate_left 1
  · intro w0 hSw
    obtain ⟨z0, z1, z2⟩ := hSw
    go_simp <;> with_reducible rfl
  try simp only [Act.put, List.getElem_toArray, List.getElem_cons_zero, List.getElem_cons_succ, List.setIfInBounds_toArray, List.set_cons_zero, List.set_cons_succ]
  refine wpAnyH_ready (rs := [6]) (by kernel_rfl) (by simp) ?_
  refine AllReadyH.cons rfl (fun K hK => ?_) AllReadyH.nil
  go_simp
  go_at_call 41
  refine (HN.out _).mono ?_
  rintro e w4 ⟨rfl, hb4⟩
  have b4 : Below w3.heap.size w3 w4 := b3.trans (hb4.mono b3.size)
  clear hb4
  refine hK.out _ _ (HS.out _ b4) (fun hHeld => ?_)
  clear hK K
  try simp only [Act.put, List.getElem_toArray, List.getElem_cons_zero, List.getElem_cons_succ, List.setIfInBounds_toArray, List.set_cons_zero, List.set_cons_succ]
  refine wpAnyH_ready (rs := [7]) (by kernel_rfl) (by simp) ?_
  refine AllReadyH.cons rfl (fun K hK => ?_) AllReadyH.nil
  go_simp
  have b6 : Below w3.heap.size w3 (w4.alloc (.cells #[.string a, .string b, .string x] 9)) := b4.alloc b4.size _
  have HC := Lib.hid (hR _ _ (strs_new w4 [a, b, x] 3 rfl))
  refine hK.out _ _ (HS.out _ b6) (fun hHeld => ?_)
  clear hK K
  try simp only [Act.put, List.getElem_toArray, List.getElem_cons_zero, List.getElem_cons_succ, List.setIfInBounds_toArray, List.set_cons_zero, List.set_cons_succ]
  refine wpAnyH_ready (rs := [8]) (by kernel_rfl) (by simp) ?_
  refine AllReadyH.cons rfl (fun K hK => ?_) AllReadyH.nil
  go_simp
  go_at_call 40
  refine (HC.out).mono ?_
  rintro e w7 ⟨rfl, hb7⟩
  have b7 : Below w3.heap.size w3 w7 := b6.trans (hb7.mono b6.size)
  clear hb7
  refine hK.out _ _ (HS.out _ b7) (fun hHeld => ?_)
  clear hK K
  try simp only [Act.put, List.getElem_toArray, List.getElem_cons_zero, List.getElem_cons_succ, List.setIfInBounds_toArray, List.set_cons_zero, List.set_cons_succ]
  refine wpAnyH_take (i := 9) (v := ?_) rfl (by kernel_rfl) (by kernel_rfl) (by kernel_rfl) (fun _ _ _ h => h) (.inl ⟨by rfl, ?_⟩) (by assumption) ?_
  rotate_left 1
  · intro w0 hSw
    go_simp <;> with_reducible rfl
  try simp only [Act.put, List.getElem_toArray, List.getElem_cons_zero, List.getElem_cons_succ, List.setIfInBounds_toArray, List.set_cons_zero, List.set_cons_succ]
  refine wpAnyH_take (i := 10) (v := ?_) rfl (by kernel_rfl) (by kernel_rfl) (by kernel_rfl) (fun _ _ _ h => h) (.inl ⟨by rfl, ?_⟩) (by assumption) ?_
  rotate_left 1
  · intro w0 hSw
    go_simp <;> with_reducible rfl
  try simp only [Act.put, List.getElem_toArray, List.getElem_cons_zero, List.getElem_cons_succ, List.setIfInBounds_toArray, List.set_cons_zero, List.set_cons_succ]
  refine wpAnyH_take (i := 11) (v := ?_) rfl (by kernel_rfl) (by kernel_rfl) (by kernel_rfl) (fun _ _ _ h => h) (.inl ⟨by rfl, ?_⟩) (by assumption) ?_
  rotate_left 1
  · intro w0 hSw
    go_simp <;> with_reducible rfl
  try simp only [Act.put, List.getElem_toArray, List.getElem_cons_zero, List.getElem_cons_succ, List.setIfInBounds_toArray, List.set_cons_zero, List.set_cons_succ]
  refine wpAnyH_take (i := 12) (v := ?_) rfl (by kernel_rfl) (by kernel_rfl) (by kernel_rfl) (fun _ _ _ h => h) (.inl ⟨by rfl, ?_⟩) (by assumption) ?_
  rotate_left 1
  · intro w0 hSw
    go_simp <;> with_reducible rfl
  try simp only [Act.put, List.getElem_toArray, List.getElem_cons_zero, List.getElem_cons_succ, List.setIfInBounds_toArray, List.set_cons_zero, List.set_cons_succ]
  refine wpAnyH_take (i := 13) (v := ?_) rfl (by kernel_rfl) (by kernel_rfl) (by kernel_rfl) (fun _ _ _ h => h) (.inl ⟨by rfl, ?_⟩) (by assumption) ?_
  rotate_left 1
  · intro w0 hSw
    go_simp <;> with_reducible rfl
  try simp only [Act.put, List.getElem_toArray, List.getElem_cons_zero, List.getElem_cons_succ, List.setIfInBounds_toArray, List.set_cons_zero, List.set_cons_succ]
  refine wpAnyH_done (by kernel_rfl) ?_ 0
  go_wp2
  go_ret2
  exact ⟨rfl, HB3.out.trans (b7.mono HB3.out.size)⟩
set_option maxRecDepth 100000 in
set_option maxHeartbeats 3200000 in
theorem rexecRoot_bad (a b : ByteArray) (n : Nat) (w : World) (hn : n < 18446744073709551616) (hbad : rightB (execChunks a b n) 2 = false) :
    Calls Tryd.prog 15 #[.agg #[.string a, .string b, .int .u64 n]] w fun e w' => e = .returned (.tuple #[.string ⟨#[]⟩, .int .i64 130]) ∧ Below w.heap.size w w' := by
  have hR := fun v W (h : Strs W v (execChunks a b n)) => rroot2_any v (execChunks a b n) W h (by simp [execChunks]) (by simp [execChunks])
  unfold rrootV2 at hR
  rw [hbad] at hR
  simp only [Bool.false_eq_true, if_false] at hR
  unfold execChunks at hR
  have hN := fun W => rnumber_any n W hn
  obtain ⟨x, hx⟩ : ∃ x : ByteArray, ⟨(numL n).toArray⟩ = x := ⟨_, rfl⟩
  rw [hx] at hN hR
  have HN := Lib.hid hN
  clear hN hx hn hbad
  go_enter Tryd.func15, Tryd.ntmps15
  go_wp2_with fail
  obtain ⟨w3, hw3⟩ : ∃ w3, w.alloc (.cells #[.string a, .string b, .int .u64 n] 34) = w3 := ⟨_, rfl⟩
  have HB3 := Lib.hid ((Below.refl w.heap.size w).alloc (Nat.le_refl _) (.cells #[.string a, .string b, .int .u64 n] 34))
  have hc0 : ∀ j u, [Value.string a, .string b, .int .u64 n][j]? = some u → (w.alloc (.cells #[.string a, .string b, .int .u64 n] 34)).cell? ⟨w.heap.size, j, none⟩ = some u := fun j u h => by
    rw [World.cell?_alloc_mark]; simpa using h
  have hk : w.heap.size < (w.alloc (.cells #[.string a, .string b, .int .u64 n] 34)).heap.size := by simp
  rw [hw3] at HB3 hc0 hk ⊢
  have HS := Lib.hid (fun W' (hb : Below w3.heap.size w3 W') => (show W'.cell? ⟨w.heap.size, 0, none⟩ = some (.string a) ∧ W'.cell? ⟨w.heap.size, 1, none⟩ = some (.string b) ∧ W'.cell? ⟨w.heap.size, 2, none⟩ = some (.int .u64 n) from
    ⟨(hb.cell (p := ⟨w.heap.size, 0, none⟩) hk).trans (hc0 0 _ rfl), (hb.cell (p := ⟨w.heap.size, 1, none⟩) hk).trans (hc0 1 _ rfl), (hb.cell (p := ⟨w.heap.size, 2, none⟩) hk).trans (hc0 2 _ rfl)⟩))
  clear hw3 hc0 hk
  have b3 : Below w3.heap.size w3 w3.drew := (Below.refl _ _).drew
  refine wp_region_held_drew (S := (fun W => W.cell? ⟨w.heap.size, 0, none⟩ = some (.string a) ∧ W.cell? ⟨w.heap.size, 1, none⟩ = some (.string b) ∧ W.cell? ⟨w.heap.size, 2, none⟩ = some (.int .u64 n))) (by kernel_rfl) (HS.out _ b3) (fun hHeld => ?_)
  refine wpAnyH_take (i := 0) (v := ?_) rfl (by kernel_rfl) (by kernel_rfl) (by kernel_rfl) (fun _ _ _ h => h) (.inl ⟨by rfl, ?_⟩) (by assumption) ?_
  rotate_left 1
  · intro w0 hSw
    go_simp <;> with_reducible rfl
  try simp only [Act.put, List.getElem_toArray, List.getElem_cons_zero, List.setIfInBounds_toArray, List.set_cons_zero, List.set_cons_succ]
  refine wpAnyH_take (i := 1) (v := ?_) rfl (by kernel_rfl) (by kernel_rfl) (by kernel_rfl) (fun _ _ _ h => h) (.inl ⟨by rfl, ?_⟩) (by assumption) ?_
  rotate_left 1
  · intro w0 hSw
    obtain ⟨z0, z1, z2⟩ := hSw
    go_simp <;> with_reducible rfl
  try simp only [Act.put, List.getElem_toArray, List.getElem_cons_zero, List.getElem_cons_succ, List.setIfInBounds_toArray, List.set_cons_zero, List.set_cons_succ]
  refine wpAnyH_take (i := 2) (v := ?_) rfl (by kernel_rfl) (by kernel_rfl) (by kernel_rfl) (fun _ _ _ h => h) (.inl ⟨by rfl, ?_⟩) (by assumption) ?_
  rotate_left 1
  · intro w0 hSw
    go_simp <;> with_reducible rfl
  try simp only [Act.put, List.getElem_toArray, List.getElem_cons_zero, List.getElem_cons_succ, List.setIfInBounds_toArray, List.set_cons_zero, List.set_cons_succ]
  refine wpAnyH_take (i := 3) (v := ?_) rfl (by kernel_rfl) (by kernel_rfl) (by kernel_rfl) (fun _ _ _ h => h) (.inl ⟨by rfl, ?_⟩) (by assumption) ?_
  rotate_left 1
  · intro w0 hSw
    obtain ⟨z0, z1, z2⟩ := hSw
    go_simp <;> with_reducible rfl
  try simp only [Act.put, List.getElem_toArray, List.getElem_cons_zero, List.getElem_cons_succ, List.setIfInBounds_toArray, List.set_cons_zero, List.set_cons_succ]
  refine wpAnyH_take (i := 4) (v := ?_) rfl (by kernel_rfl) (by kernel_rfl) (by kernel_rfl) (fun _ _ _ h => h) (.inl ⟨by rfl, ?_⟩) (by assumption) ?_
  rotate_left 1
  · intro w0 hSw
    go_simp <;> with_reducible rfl
  try simp only [Act.put, List.getElem_toArray, List.getElem_cons_zero, List.getElem_cons_succ, List.setIfInBounds_toArray, List.set_cons_zero, List.set_cons_succ]
  refine wpAnyH_take (i := 5) (v := ?_) rfl (by kernel_rfl) (by kernel_rfl) (by kernel_rfl) (fun _ _ _ h => h) (.inl ⟨by rfl, ?_⟩) (by assumption) ?_
  rotate_left 1
  · intro w0 hSw
    obtain ⟨z0, z1, z2⟩ := hSw
    go_simp <;> with_reducible rfl
  try simp only [Act.put, List.getElem_toArray, List.getElem_cons_zero, List.getElem_cons_succ, List.setIfInBounds_toArray, List.set_cons_zero, List.set_cons_succ]
  refine wpAnyH_ready (rs := [6]) (by kernel_rfl) (by simp) ?_
  refine AllReadyH.cons rfl (fun K hK => ?_) AllReadyH.nil
  go_simp
  go_at_call 41
  refine (HN.out _).mono ?_
  rintro e w4 ⟨rfl, hb4⟩
  have b4 : Below w3.heap.size w3 w4 := b3.trans (hb4.mono b3.size)
  clear hb4
  refine hK.out _ _ (HS.out _ b4) (fun hHeld => ?_)
  clear hK K
  try simp only [Act.put, List.getElem_toArray, List.getElem_cons_zero, List.getElem_cons_succ, List.setIfInBounds_toArray, List.set_cons_zero, List.set_cons_succ]
  refine wpAnyH_ready (rs := [7]) (by kernel_rfl) (by simp) ?_
  refine AllReadyH.cons rfl (fun K hK => ?_) AllReadyH.nil
  go_simp
  have b6 : Below w3.heap.size w3 (w4.alloc (.cells #[.string a, .string b, .string x] 9)) := b4.alloc b4.size _
  have HC := Lib.hid (hR _ _ (strs_new w4 [a, b, x] 3 rfl))
  refine hK.out _ _ (HS.out _ b6) (fun hHeld => ?_)
  clear hK K
  try simp only [Act.put, List.getElem_toArray, List.getElem_cons_zero, List.getElem_cons_succ, List.setIfInBounds_toArray, List.set_cons_zero, List.set_cons_succ]
  refine wpAnyH_ready (rs := [8]) (by kernel_rfl) (by simp) ?_
  refine AllReadyH.cons rfl (fun K hK => ?_) AllReadyH.nil
  go_simp
  go_at_call 40
  refine (HC.out).mono ?_
  rintro e w7 ⟨rfl, hb7⟩
  have b7 : Below w3.heap.size w3 w7 := b6.trans (hb7.mono b6.size)
  clear hb7
  refine hK.out _ _ (HS.out _ b7) (fun hHeld => ?_)
  clear hK K
  try simp only [Act.put, List.getElem_toArray, List.getElem_cons_zero, List.getElem_cons_succ, List.setIfInBounds_toArray, List.set_cons_zero, List.set_cons_succ]
  refine wpAnyH_take (i := 9) (v := ?_) rfl (by kernel_rfl) (by kernel_rfl) (by kernel_rfl) (fun _ _ _ h => h) (.inl ⟨by rfl, ?_⟩) (by assumption) ?_
  rotate_left 1
  · intro w0 hSw
    go_simp <;> with_reducible rfl
  try simp only [Act.put, List.getElem_toArray, List.getElem_cons_zero, List.getElem_cons_succ, List.setIfInBounds_toArray, List.set_cons_zero, List.set_cons_succ]
  refine wpAnyH_take (i := 10) (v := ?_) rfl (by kernel_rfl) (by kernel_rfl) (by kernel_rfl) (fun _ _ _ h => h) (.inl ⟨by rfl, ?_⟩) (by assumption) ?_
  rotate_left 1
  · intro w0 hSw
    go_simp <;> with_reducible rfl
  try simp only [Act.put, List.getElem_toArray, List.getElem_cons_zero, List.getElem_cons_succ, List.setIfInBounds_toArray, List.set_cons_zero, List.set_cons_succ]
  refine wpAnyH_take (i := 11) (v := ?_) rfl (by kernel_rfl) (by kernel_rfl) (by kernel_rfl) (fun _ _ _ h => h) (.inl ⟨by rfl, ?_⟩) (by assumption) ?_
  rotate_left 1
  · intro w0 hSw
    go_simp <;> with_reducible rfl
  try simp only [Act.put, List.getElem_toArray, List.getElem_cons_zero, List.getElem_cons_succ, List.setIfInBounds_toArray, List.set_cons_zero, List.set_cons_succ]
  refine wpAnyH_take (i := 12) (v := ?_) rfl (by kernel_rfl) (by kernel_rfl) (by kernel_rfl) (fun _ _ _ h => h) (.inl ⟨by rfl, ?_⟩) (by assumption) ?_
  rotate_left 1
  · intro w0 hSw
    go_simp <;> with_reducible rfl
  try simp only [Act.put, List.getElem_toArray, List.getElem_cons_zero, List.getElem_cons_succ, List.setIfInBounds_toArray, List.set_cons_zero, List.set_cons_succ]
  refine wpAnyH_take (i := 13) (v := ?_) rfl (by kernel_rfl) (by kernel_rfl) (by kernel_rfl) (fun _ _ _ h => h) (.inl ⟨by rfl, ?_⟩) (by assumption) ?_
  rotate_left 1
  · intro w0 hSw
    go_simp <;> with_reducible rfl
  try simp only [Act.put, List.getElem_toArray, List.getElem_cons_zero, List.getElem_cons_succ, List.setIfInBounds_toArray, List.set_cons_zero, List.set_cons_succ]
  refine wpAnyH_done (by kernel_rfl) ?_ 0
  go_wp2
  go_ret2
  exact ⟨rfl, HB3.out.trans (b7.mono HB3.out.size)⟩
end Go.Proofs.YtfbopnebfdkhdaaDoor
