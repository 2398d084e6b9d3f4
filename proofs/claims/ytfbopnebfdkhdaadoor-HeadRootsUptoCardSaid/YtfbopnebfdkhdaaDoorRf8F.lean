/- Contracts of pharosref08's level at 4, right and Root at 3 and 4, Check at a branch of two; pharosref13's Root, ExecRoot, Holds. -/
import Derived.Test.YtfbopnebfdkhdaaDoorRf8E
import Derived.Test.YtfbopnebfdkhdaaDoorHedE
namespace Go.Proofs.YtfbopnebfdkhdaaDoor
open Go.RowKit Go.Shelf Go.Lib
attribute [local go_sem] Oper.semAt_some

set_option maxRecDepth 100000 in
set_option maxHeartbeats 3200000 in
theorem level4_any (v : Value) (xs : List ByteArray) (up : Nat) (w : World) (hv : Strs w v xs) (hup : up ≤ 4) (h0 : xs ≠ []) (hN : xs.length ≤ 16) (hxs : ∀ x ∈ xs, x.size ≤ 1048576) :
    Calls Tryd.prog 80 #[v, .int .i64 4, .int .i64 up] w fun e w' => ∃ v', e = .returned v' ∧ OwnS w.heap.size w' v' (lvlB (padB 4 xs) up) ∧ Below w.heap.size w w' := by
  obtain ⟨p, c, rfl, hc, hcell⟩ := hv
  obtain ⟨bk, o, rfl, hbk, hcl⟩ := hcell.resolve_left h0
  have hpl : (padB 4 xs).length = 16 := padB_length 4 xs hN
  have hps : ∀ x ∈ padB 4 xs, x.size ≤ 1048576 := by
    intro x hx
    unfold padB at hx
    rcases List.mem_append.1 hx with hx | hx
    · exact hxs x hx
    · rw [(List.mem_replicate.1 hx).2, noughtB_size]; omega
  have hpd : padB 4 xs = xs ++ List.replicate (16 - xs.length) noughtB := rfl
  obtain ⟨pl, hpe⟩ : ∃ pl, padB 4 xs = pl := ⟨_, rfl⟩
  rw [hpe] at hpl hps hpd ⊢
  have hnz := fun W => noughts_any 32 W (by omega)
  rw [noughtB_eq] at hnz
  obtain ⟨z, hz⟩ : ∃ z, noughtB = z := ⟨_, rfl⟩
  rw [hz] at hnz hpd
  obtain ⟨n, hn⟩ : ∃ n, xs.length = n := ⟨_, rfl⟩
  rw [hn] at hN hc hpd ⊢
  have h0n : 0 < n := by rw [← hn]; exact List.length_pos_iff.2 h0
  have HPL := Lib.hid hpl
  have HPS := Lib.hid hps
  have HPD := Lib.hid hpd
  have HNZ := Lib.hid hnz
  have HCL := Lib.hid hcl
  have HLN := Lib.hid hn
  obtain ⟨i0, i1, i2, i3, i4⟩ := infoStrZ
  have I1 := Lib.hid i1
  have I2 := Lib.hid i2
  have I3 := Lib.hid i3
  have I4 := Lib.hid i4
  clear hcell h0 hxs hpl hps hpd hpe hnz hz hcl hn i1 i2 i3 i4
  go_enter Tryd.func80, Tryd.ntmps80
  go_wp2_with (at_make; refine wpList_make_own _ rfl _ _ 30 rfl w.heap.size 9 i0 (.string ⟨#[]⟩) 1 Tryd.underlying30 I1.out I2.out I3.out .i64 .i64 _ 16 rfl rfl ?c0 ?c1 ?c2 ?c3 ?_)
  case c0 => rfl
  case c1 => rw [I4.out]; omega
  case c2 => unfold maxLen; omega
  case c3 => exact Nat.le_refl _
  intro w1 ho1 hg1
  have hb1 : Below w.heap.size w w1 := (Below.refl _ _).grown hg1 (Nat.le_refl _) (fun k e => by cases e)
  have ho1' : OwnS w.heap.size w1 (.slice (some ⟨w.heap.size, 0, none⟩) 0 16) [] := ho1
  have HO1 := Lib.hid ho1'
  have HB1 := Lib.hid hb1
  clear ho1 ho1' hg1 hb1
  go_wp2_with (at_builtin; refine wpList_appendTs rfl _ _ 30 rfl w.heap.size Tryd.underlying30 infoStr _ [] rfl HO1.out ⟨bk, o, none⟩ n c xs rfl ?c4 ?c5 ?c6 ?c7 ?_)
  case c4 => exact HLN.out
  case c5 =>
    intro j x hx
    have ea : (⟨bk, o, none⟩ : Addr).add j = ⟨bk, o + j, none⟩ := by unfold Addr.add; split <;> simp_all
    rw [ea]
    exact (HB1.out.cell (p := ⟨bk, o + j, none⟩) hbk).trans (HCL.out j x hx)
  case c6 => simp; omega
  case c7 => exact HB1.out.size
  intro v2 w2 ho2 hg2 _
  have hb2 : Below w.heap.size w w2 := HB1.out.grown hg2 HB1.out.size (fun r e => (HO1.out.lt r e).1)
  have HO2 := Lib.hid ho2
  have HB2 := Lib.hid hb2
  clear ho2 hg2 hb2 HO1 HB1
  go_wp2_with fail
  go_loopw [7] (fun v wr => ∃ k : Nat, n + k ≤ 16 ∧ Aside (OwnS w.heap.size wr v (xs ++ List.replicate k z)) ∧ Aside (Below w.heap.size w wr)) (fun v _ => 16 - (match v with | .slice _ l _ => l | _ => 0))
  case atStart => exact ⟨0, by omega, (by rw [List.replicate_zero, List.append_nil]; exact HO2.out), HB2.out⟩
  case round =>
    clear HO2 HB2
    obtain ⟨k, hk, HO, HB⟩ := hrel
    have ho := HO.out
    obtain ⟨pv, cv, hv⟩ := ho.form
    have hll : (xs ++ List.replicate k z).length = n + k := by rw [List.length_append, List.length_replicate, HLN.out]
    rw [hll] at hv
    have hn1 : xs ++ List.replicate (k + 1) z = (xs ++ List.replicate k z) ++ [z] := by rw [List.replicate_succ', List.append_assoc]
    obtain ⟨L, hL⟩ : ∃ L, xs ++ List.replicate k z = L := ⟨_, rfl⟩
    rw [hL] at ho hll hn1
    obtain ⟨q, hq⟩ : ∃ q, n + k = q := ⟨_, rfl⟩
    rw [hq] at hv hk hll
    subst hv
    have HO' := Lib.hid ho
    have HLL := Lib.hid hll
    have HN1 := Lib.hid hn1
    have HQ := Lib.hid hq
    have HLX := Lib.hid hL
    clear ho hll hn1 hL hq HO
    by_cases hlt : q < 16
    · have g1 : decide ((q : Int) < 16) = true := by simp; omega
      go_wp2_with fail
      refine (HNZ.out _).mono ?_
      rintro e w3 ⟨rfl, hb3⟩
      have HO3 := Lib.hid (HO'.out.after hb3)
      have HB3 := Lib.hid (HB.out.trans (hb3.mono HB.out.size))
      clear hb3 HO' HB
      go_wp2_with (at_builtin; refine wpList_appendT rfl _ _ 30 rfl w.heap.size Tryd.underlying30 infoStr _ L rfl (HO3.out.alloc _) ⟨w3.heap.size, 0, none⟩ 1 z rfl ?d0 ?d1 ?d2 ?_)
      case d0 => exact cells_new_at rfl [.string z] 9 0 _ rfl
      case d1 => rw [HLL.out]; omega
      case d2 => have := HB3.out.size; simp; omega
      intro v4 w4 ho4 hg4
      have hb4 : Below w.heap.size w w4 := (HB3.out.alloc HB3.out.size _).grown hg4 (by have := HB3.out.size; simp; omega) (fun r e => (HO3.out.lt r e).1)
      obtain ⟨p4, c4, hv4⟩ := ho4.form
      rw [List.length_append, HLL.out, List.length_singleton] at hv4
      rw [← HN1.out] at ho4
      subst hv4
      have HO4 := Lib.hid ho4
      have HB4 := Lib.hid hb4
      clear ho4 hg4 hb4 HO3 HB3
      go_wp2
      go_roundw
      case rel => exact ⟨k + 1, (by have := HQ.out; omega), HO4.out, HB4.out⟩
      case measure => simp; omega
    · obtain rfl : q = 16 := by omega
      have ho := HO'.out
      rw [← HLX.out, show k = 16 - n from by have := HQ.out; omega, ← HPD.out] at ho
      have HO5 := Lib.hid ho
      obtain ⟨w5, hw5⟩ : ∃ w5, wr = w5 := ⟨_, rfl⟩
      rw [hw5] at HO5 HB ⊢
      clear ho HO' hw5 wr HLL HN1 HLX HQ hlt hk L
      go_wp2_with fail
      go_loopw [7, 8] (fun v i wr => ∃ u : Nat, u ≤ up ∧ i = .int .i64 u ∧ Aside (OwnS w.heap.size wr v (lvlB pl u)) ∧ Aside (Below w.heap.size w wr)) (fun _ i _ => up - (RowKit.intOf i).toNat)
      case atStart => exact ⟨0, Nat.zero_le _, rfl, HO5.out, HB.out⟩
      case round =>
        clear HO5 HB
        obtain ⟨u, hu, rfl, HO, HB⟩ := hrel
        obtain ⟨w6, hw6⟩ : ∃ w6, wr = w6 := ⟨_, rfl⟩
        rw [hw6] at HO HB ⊢
        clear hw6 wr
        by_cases hlu : u < up
        · obtain ⟨hev, hle⟩ := lvlB_even pl 4 u HPL.out (by omega)
          have hms := lvlB_mem pl 1048576 (by omega) HPS.out u
          have ho := HO.out
          have hsucc : lvlB pl (u + 1) = halfs (lvlB pl u) := rfl
          obtain ⟨L, hL⟩ : ∃ L, lvlB pl u = L := ⟨_, rfl⟩
          rw [hL] at hev hle hms ho hsucc
          have hle' : L.length ≤ 16 := Nat.le_trans hle (by omega)
          obtain ⟨m, hm⟩ : ∃ m, L.length / 2 = m := ⟨_, rfl⟩
          have hm2 : L.length = 2 * m := by omega
          obtain ⟨pv, cv, hv⟩ := ho.form
          obtain ⟨q, hq⟩ : ∃ q, L.length = q := ⟨_, rfl⟩
          rw [hq] at hm2 hle' hv
          subst hv
          have HO7 := Lib.hid ho
          have HMS := Lib.hid hms
          have HSU := Lib.hid hsucc
          have HQ := Lib.hid hq
          have HM := Lib.hid hm2
          clear ho hms hsucc hq hev hle hL hm hm2 HO
          go_wp2_with fail
          go_loopw [9, 10] (fun v i wr => ∃ j : Nat, j ≤ m ∧ i = .int .i64 ((2 * j : Nat) : Int) ∧ Aside (OwnS w6.heap.size wr v ((halfs L).take j)) ∧ Aside (Below w6.heap.size w6 wr)) (fun _ i _ => q - (RowKit.intOf i).toNat)
          case atStart => exact ⟨0, Nat.zero_le _, rfl, OwnS.nil _ _, Below.refl _ _⟩
          case round =>
            obtain ⟨j, hj, rfl, HN, HBj⟩ := hrel
            by_cases hlj : j < m
            · obtain ⟨x, hx⟩ : ∃ x, L[2 * j]? = some x := ⟨_, List.getElem?_eq_getElem (by have := HQ.out; have := HM.out; omega)⟩
              obtain ⟨y, hy⟩ : ∃ y, L[2 * j + 1]? = some y := ⟨_, List.getElem?_eq_getElem (by have := HQ.out; have := HM.out; omega)⟩
              have hts := halfs_take L j x y (by have := HQ.out; have := HM.out; omega) hx hy
              obtain ⟨g, cg, hvg, hg0, hg1, hgc, -⟩ := HO7.out.opened (by have := HQ.out; have := HM.out; omega)
              rw [HQ.out] at hvg
              cases hvg
              have hxs := HMS.out x (List.mem_of_getElem? hx)
              have hys := HMS.out y (List.mem_of_getElem? hy)
              have hxy : (x ++ y).size ≤ 1099511627776 := by rw [ByteArray.size_append]; omega
              have g9 : ¬ 9223372036854775807 < x.size + y.size := by omega
              have hsum := fun W => rsum_shaB (x ++ y) W hxy
              obtain ⟨sm, hsm⟩ : ∃ sm, shaB (x ++ y) = sm := ⟨_, rfl⟩
              rw [hsm] at hsum hts
              have hnl : ((halfs L).take j).length = j := by rw [List.length_take, halfs_length]; have := HQ.out; have := HM.out; omega
              obtain ⟨N, hN'⟩ : ∃ N, (halfs L).take j = N := ⟨_, rfl⟩
              have hn := HN.out
              rw [hN'] at hts hnl hn
              obtain ⟨pn, cn, hvn⟩ := hn.form
              rw [hnl] at hvn
              subst hvn
              obtain ⟨t, ht⟩ : ∃ t, 2 * j = t := ⟨_, rfl⟩
              have htq : t + 1 < q := by have := HM.out; omega
              rw [ht] at hx hy ⊢
              have hS : ∀ W', Below w6.heap.size w6 W' → W'.cell? ⟨g, t, none⟩ = some (.string x) ∧ W'.cell? ⟨g, t + 1, none⟩ = some (.string y) := fun W' hb =>
                ⟨(hb.cell (p := ⟨g, t, none⟩) hg1).trans (hgc _ _ hx), (hb.cell (p := ⟨g, t + 1, none⟩) hg1).trans (hgc _ _ hy)⟩
              have HS := Lib.hid hS
              have HSUM := Lib.hid hsum
              have HTS := Lib.hid hts
              have HNL := Lib.hid hnl
              have HN1 := Lib.hid hn
              have HT := Lib.hid ht
              have g1 : (0 : Int) ≤ t := by omega
              have g2 : (t : Int) < q := by omega
              have g3 : IntKind.i64.wrap ((t : Int) + 1) = (t : Int) + 1 := IntWalk.i64_in _ (by omega)
              have g4 : (0 : Int) ≤ (t : Int) + 1 := by omega
              have g5 : (t : Int) + 1 < q := by omega
              have g6 : ((t : Int) + 1).toNat = t + 1 := by omega
              have g7 : IntKind.i64.wrap ((t : Int) + 2) = (t : Int) + 2 := IntWalk.i64_in _ (by omega)
              clear hS hsum hts hnl hn hN' hsm hxy hxs hys hx hy hgc HN ht
              go_wp2_with fail
              have b0 : Below w6.heap.size w6 wr.drew := HBj.out.drew
              have b0' : Below wr.heap.size wr wr.drew := (Below.refl _ _).drew
              refine wp_region_held_drew (S := (fun W => W.cell? ⟨g, t, none⟩ = some (.string x) ∧ W.cell? ⟨g, t + 1, none⟩ = some (.string y))) (by kernel_rfl) (HS.out _ b0) (fun hHeld => ?_)
              refine wpAnyH_take (i := 0) (v := ?_) rfl (by kernel_rfl) (by kernel_rfl) (by kernel_rfl) (fun _ _ _ h => h) (.inl ⟨by rfl, ?_⟩) (by assumption) ?_
              rotate_left 1
              · intro w0 hSw
                go_simp <;> with_reducible rfl
              try simp only [Act.put, List.getElem_toArray, List.getElem_cons_zero, List.setIfInBounds_toArray, List.set_cons_zero, List.set_cons_succ]
              refine wpAnyH_take (i := 1) (v := ?_) rfl (by kernel_rfl) (by kernel_rfl) (by kernel_rfl) (fun _ _ _ h => h) (.inl ⟨by rfl, ?_⟩) (by assumption) ?_
              rotate_left 1
              · intro w0 hSw
                go_simp <;> with_reducible rfl
              try simp only [Act.put, List.getElem_toArray, List.getElem_cons_zero, List.getElem_cons_succ, List.setIfInBounds_toArray, List.set_cons_zero, List.set_cons_succ]
              refine wpAnyH_take (i := 2) (v := ?_) rfl (by kernel_rfl) (by kernel_rfl) (by kernel_rfl) (fun _ _ _ h => h) (.inl ⟨by rfl, ?_⟩) (by assumption) ?_
              rotate_left 1
              · intro w0 hSw
                go_simp <;> with_reducible rfl
              try simp only [Act.put, List.getElem_toArray, List.getElem_cons_zero, List.getElem_cons_succ, List.setIfInBounds_toArray, List.set_cons_zero, List.set_cons_succ]
              refine wpAnyH_take (i := 3) (v := ?_) rfl (by kernel_rfl) (by kernel_rfl) (by kernel_rfl) (fun _ _ _ h => h) (.inl ⟨by rfl, ?_⟩) (by assumption) ?_
              rotate_left 1
              · intro w0 hSw
                go_simp <;> with_reducible rfl
              try simp only [Act.put, List.getElem_toArray, List.getElem_cons_zero, List.getElem_cons_succ, List.setIfInBounds_toArray, List.set_cons_zero, List.set_cons_succ]
              refine wpAnyH_take (i := 4) (v := ?_) rfl (by kernel_rfl) (by kernel_rfl) (by kernel_rfl) (fun _ _ _ h => h) (.inl ⟨by rfl, ?_⟩) (by assumption) ?_
              rotate_left 1
              · intro w0 hSw
                obtain ⟨z0, z1⟩ := hSw
                go_simp <;> with_reducible rfl
              try simp only [Act.put, List.getElem_toArray, List.getElem_cons_zero, List.getElem_cons_succ, List.setIfInBounds_toArray, List.set_cons_zero, List.set_cons_succ]
              refine wpAnyH_take (i := 5) (v := ?_) rfl (by kernel_rfl) (by kernel_rfl) (by kernel_rfl) (fun _ _ _ h => h) (.inl ⟨by rfl, ?_⟩) (by assumption) ?_
              rotate_left 1
              · intro w0 hSw
                go_simp <;> with_reducible rfl
              try simp only [Act.put, List.getElem_toArray, List.getElem_cons_zero, List.getElem_cons_succ, List.setIfInBounds_toArray, List.set_cons_zero, List.set_cons_succ]
              refine wpAnyH_take (i := 6) (v := ?_) rfl (by kernel_rfl) (by kernel_rfl) (by kernel_rfl) (fun _ _ _ h => h) (.inl ⟨by rfl, ?_⟩) (by assumption) ?_
              rotate_left 1
              · intro w0 hSw
                go_simp <;> with_reducible rfl
              try simp only [Act.put, List.getElem_toArray, List.getElem_cons_zero, List.getElem_cons_succ, List.setIfInBounds_toArray, List.set_cons_zero, List.set_cons_succ]
              refine wpAnyH_take (i := 7) (v := ?_) rfl (by kernel_rfl) (by kernel_rfl) (by kernel_rfl) (fun _ _ _ h => h) (.inl ⟨by rfl, ?_⟩) (by assumption) ?_
              rotate_left 1
              · intro w0 hSw
                go_simp <;> with_reducible rfl
              try simp only [Act.put, List.getElem_toArray, List.getElem_cons_zero, List.getElem_cons_succ, List.setIfInBounds_toArray, List.set_cons_zero, List.set_cons_succ]
              refine wpAnyH_take (i := 8) (v := ?_) rfl (by kernel_rfl) (by kernel_rfl) (by kernel_rfl) (fun _ _ _ h => h) (.inl ⟨by rfl, ?_⟩) (by assumption) ?_
              rotate_left 1
              · intro w0 hSw
                go_simp <;> with_reducible rfl
              try simp only [Act.put, List.getElem_toArray, List.getElem_cons_zero, List.getElem_cons_succ, List.setIfInBounds_toArray, List.set_cons_zero, List.set_cons_succ]
              refine wpAnyH_take (i := 9) (v := ?_) rfl (by kernel_rfl) (by kernel_rfl) (by kernel_rfl) (fun _ _ _ h => h) (.inl ⟨by rfl, ?_⟩) (by assumption) ?_
              rotate_left 1
              · intro w0 hSw
                obtain ⟨z0, z1⟩ := hSw
                go_simp <;> with_reducible rfl
              try simp only [Act.put, List.getElem_toArray, List.getElem_cons_zero, List.getElem_cons_succ, List.setIfInBounds_toArray, List.set_cons_zero, List.set_cons_succ]
              refine wpAnyH_take (i := 10) (v := ?_) rfl (by kernel_rfl) (by kernel_rfl) (by kernel_rfl) (fun _ _ _ h => h) (.inl ⟨by rfl, ?_⟩) (by assumption) ?_
              rotate_left 1
              · intro w0 hSw
                go_simp <;> with_reducible rfl
              try simp only [Act.put, List.getElem_toArray, List.getElem_cons_zero, List.getElem_cons_succ, List.setIfInBounds_toArray, List.set_cons_zero, List.set_cons_succ]
              refine wpAnyH_ready (rs := [11]) (by kernel_rfl) (by simp) ?_
              refine AllReadyH.cons rfl (fun K hK => ?_) AllReadyH.nil
              go_simp
              go_at_call 36
              refine (HSUM.out _).mono ?_
              rintro e w7 ⟨rfl, hb7⟩
              have b1 : Below w6.heap.size w6 w7 := b0.trans (hb7.mono b0.size)
              have HO8 := Lib.hid (HN1.out.after (b0'.trans hb7))
              have hz7 : w6.heap.size ≤ w7.heap.size := b1.size
              clear hb7
              refine hK.out _ _ (HS.out _ b1) (fun hHeld => ?_)
              clear hK K
              try simp only [Act.put, List.getElem_toArray, List.getElem_cons_zero, List.getElem_cons_succ, List.setIfInBounds_toArray, List.set_cons_zero, List.set_cons_succ]
              refine wpAnyH_ready (rs := [12]) (by kernel_rfl) (by simp) ?_
              refine AllReadyH.cons rfl (fun K hK => ?_) AllReadyH.nil
              go_simp
              have b2 : Below w6.heap.size w6 (w7.alloc (.cells #[.string sm] 9)) := b1.alloc hz7 _
              refine hK.out _ _ (HS.out _ b2) (fun hHeld => ?_)
              clear hK K
              try simp only [Act.put, List.getElem_toArray, List.getElem_cons_zero, List.getElem_cons_succ, List.setIfInBounds_toArray, List.set_cons_zero, List.set_cons_succ]
              refine wpAnyH_ready (rs := [13]) (by kernel_rfl) (by simp) ?_
              refine AllReadyH.cons rfl (fun K hK => ?_) AllReadyH.nil
              refine step_appendTs (by rfl) _ _ 30 rfl w6.heap.size Tryd.underlying30 infoStr _ N rfl (HO8.out.alloc _) ⟨w7.heap.size, 0, none⟩ 1 1 [sm] rfl rfl ?e0 ?e1 ?e2 ?_
              case e0 => exact fun j' x' h => one_at h (fun e1 e2 => by subst e1; subst e2; exact cells_new_at rfl [.string sm] 9 0 _ rfl)
              case e1 => rw [HNL.out]; have := HM.out; omega
              case e2 => simp; omega
              intro v9 w9 ho9 hg9 _
              have b4 : Below w6.heap.size w6 w9 := b2.grown hg9 (by simp; omega) (fun r e => (HO8.out.lt r e).1)
              rw [← HTS.out] at ho9
              have HO9 := Lib.hid ho9
              clear ho9 hg9 b0 b1 b2
              refine hK.out _ _ (HS.out _ b4) (fun hHeld => ?_)
              clear hK K
              try simp only [Act.put, List.getElem_toArray, List.getElem_cons_zero, List.getElem_cons_succ, List.setIfInBounds_toArray, List.set_cons_zero, List.set_cons_succ]
              refine wpAnyH_take (i := 14) (v := ?_) rfl (by kernel_rfl) (by kernel_rfl) (by kernel_rfl) (fun _ _ _ h => h) (.inl ⟨by rfl, ?_⟩) (by assumption) ?_
              rotate_left 1
              · intro w0 hSw
                go_simp <;> with_reducible rfl
              try simp only [Act.put, List.getElem_toArray, List.getElem_cons_zero, List.getElem_cons_succ, List.setIfInBounds_toArray, List.set_cons_zero, List.set_cons_succ]
              refine wpAnyH_done (by kernel_rfl) ?_ 0
              go_wp2
              go_roundw
              case rel => exact ⟨j + 1, by omega, (by have := HT.out; rw [show 2 * (j + 1) = t + 2 from by omega]; go_num), HO9.out, b4⟩
              case measure => simp [RowKit.intOf]; omega
            · obtain rfl : j = m := by omega
              have hn := HN.out
              rw [List.take_of_length_le (by rw [halfs_length, HQ.out]; have := HM.out; omega), ← HSU.out] at hn
              have HO8 := Lib.hid (hn.base HB.out.size)
              have HB8 := Lib.hid (HB.out.trans (HBj.out.mono HB.out.size))
              have hM := HM.out
              clear hn HN HBj
              rw [← hM]
              go_wp2
              go_roundw
              case rel => exact ⟨u + 1, by omega, by go_num, HO8.out, HB8.out⟩
              case measure => simp [RowKit.intOf]; omega
        · obtain rfl : u = up := by omega
          go_wp2
          go_ret
          exact ⟨_, rfl, HO.out, HB.out⟩

set_option maxRecDepth 100000 in
set_option maxHeartbeats 3200000 in
theorem rright3_any (v : Value) (xs : List ByteArray) (w : World) (hv : Strs w v xs) (hN : xs.length ≤ 1048576) :
    Calls Tryd.prog 82 #[v, .int .i64 3] w fun e w' => e = .returned (.bool (rightB xs 3)) ∧ w' = w := by
  obtain ⟨p, c, rfl, hc, hcell⟩ := hv
  have hrb : ∀ b, xs.any noChunk = b → rightB xs 3 = (decide (xs.length ≤ 8) && !b) := fun b hb => by unfold rightB; rw [hb]
  have HRB := Lib.hid hrb
  have HC := Lib.hid hcell
  obtain ⟨n, hn⟩ : ∃ n, xs.length = n := ⟨_, rfl⟩
  rw [hn] at hN hc HRB ⊢
  have HN := Lib.hid hn
  clear hcell hrb hn
  by_cases hle : n ≤ 8
  · have g1 : decide ((8 : Int) < n) = false := by simp; omega
    have g2 : decide ((256 : Int) < n) = false := by simp; omega
    have HR1 := Lib.hid (fun b hb => (HRB.out b hb).trans (by rw [decide_eq_true hle, Bool.true_and]))
    obtain ⟨R, hR⟩ : ∃ R, rightB xs 3 = R := ⟨_, rfl⟩
    rw [hR] at HR1 ⊢
    clear HRB hR
    go_enter Tryd.func82, Tryd.ntmps82
    go_wp2_with fail
    go_loopw [5] (fun i wr => ∃ k : Nat, k ≤ n ∧ i = .int .i64 k ∧ wr = w ∧ Aside (∀ j x, j < k → xs[j]? = some x → noChunk x = false)) (fun i _ => n - (RowKit.intOf i).toNat)
    case atStart => exact ⟨0, Nat.zero_le _, rfl, rfl, fun _ _ h => absurd h (Nat.not_lt_zero _)⟩
    case round =>
      obtain ⟨k, hk, rfl, rfl, HS⟩ := hrel
      by_cases hlt : k < n
      · obtain ⟨x, hx⟩ : ∃ x, xs[k]? = some x := ⟨_, List.getElem?_eq_getElem (by rw [HN.out]; exact hlt)⟩
        obtain ⟨bk, o, rfl, hbk, hcl⟩ : ∃ bk o, p = some ⟨bk, o, none⟩ ∧ bk < wr.heap.size ∧ ∀ (j : Nat) x, xs[j]? = some x → wr.cell? ⟨bk, o + j, none⟩ = some (.string x) := by
          rcases HC.out with h | ⟨bk, o, h1, h2, h3⟩
          · rw [h] at hx; cases hx
          · exact ⟨bk, o, h1, h2, h3⟩
        have c0 := hcl k x hx
        have g3 : (0 : Int) ≤ k := by omega
        have g4 : (k : Int) < n := by omega
        have HX := Lib.hid hx
        clear hcl hx
        by_cases h32 : x.size = 32
        · have g5 : ((x.size : Int) != 32) = false := by rw [bne_eq_false_iff_eq]; omega
          go_wp2
          go_roundw
          case rel => exact ⟨k + 1, by omega, by go_num, trivial, (fun j y hj hy => by
            rcases Nat.lt_succ_iff_lt_or_eq.1 hj with h | rfl
            · exact HS.out j y h hy
            · rw [HX.out] at hy
              cases hy
              unfold noChunk
              simp [h32])⟩
          case measure => simp [RowKit.intOf]; omega
        · have g5 : ((x.size : Int) != 32) = true := by rw [bne_iff_ne]; omega
          have hany : xs.any noChunk = true := anyB_hit HX.out (by unfold noChunk; simp [h32])
          have hr := HR1.out true hany
          go_wp2
          go_ret
          exact ⟨by rw [hr]; rfl, rfl⟩
      · obtain rfl : k = n := by omega
        have hany : xs.any noChunk = false := anyB_miss (fun j x hj hx => HS.out j x (by rw [HN.out] at hj; exact hj) hx)
        have hr := HR1.out false hany
        go_wp2
        go_ret
        exact ⟨by rw [hr]; rfl, rfl⟩
  · have g1 : decide ((8 : Int) < n) = true := by simp; omega
    have hr := HRB.out _ rfl
    rw [decide_eq_false hle, Bool.false_and] at hr
    rw [hr]
    clear HRB hr
    go_enter Tryd.func82, Tryd.ntmps82
    go_wp2
    go_ret
    exact ⟨rfl, rfl⟩

/-- what Root gives -/
def rrootV3 (xs : List ByteArray) : Value := if rightB xs 3 then .tuple #[.string (rootB 3 xs noughtB), .int .i64 0] else .tuple #[.string ⟨#[]⟩, .int .i64 80]
set_option maxRecDepth 100000 in
set_option maxHeartbeats 3200000 in
theorem rroot3_any (v : Value) (xs : List ByteArray) (w : World) (hv : Strs w v xs) (h0 : xs ≠ []) (hN : xs.length ≤ 1048576) :
    Calls Tryd.prog 40 #[v, .int .i64 3] w fun e w' => e = .returned (rrootV3 xs) ∧ Below w.heap.size w w' := by
  have hr := rright3_any v xs w hv hN
  have hv' := hv
  obtain ⟨p, c, rfl, -⟩ := hv
  unfold rrootV3
  cases hb : rightB xs 3 with
  | true =>
    rw [hb] at hr
    obtain ⟨hl, hs⟩ := rightB_chunks hb
    have hlv := level3_any _ xs 3 w hv' (Nat.le_refl _) h0 hl (fun x hx => by have := hs x hx; omega)
    rw [padB_root 3 xs hl] at hlv
    obtain ⟨r, hrr⟩ : ∃ r, rootB 3 xs noughtB = r := ⟨_, rfl⟩
    rw [hrr] at hlv ⊢
    simp only [if_true]
    have HR := Lib.hid hr
    have HL := Lib.hid hlv
    clear hr hlv hrr hl hs hb hv' h0 hN
    go_enter Tryd.func40, Tryd.ntmps40
    go_wp2_with fail
    refine HR.out.mono ?_
    rintro e w1 ⟨rfl, rfl⟩
    go_wp2_with fail
    refine HL.out.mono ?_
    rintro e w2 ⟨v2, rfl, ho2, hb2⟩
    obtain ⟨g, c2, hv2, -, -, hc2, -⟩ := ho2.opened (by simp)
    subst hv2
    have c0 := hc2 0 r rfl
    clear hc2 ho2
    go_wp2
    go_ret2
    exact ⟨rfl, hb2⟩
  | false =>
    rw [hb] at hr
    simp only [Bool.false_eq_true, if_false]
    have HR := Lib.hid hr
    clear hr hb hv' h0 hN
    go_enter Tryd.func40, Tryd.ntmps40
    go_wp2_with fail
    refine HR.out.mono ?_
    rintro e w1 ⟨rfl, rfl⟩
    go_wp2
    go_ret2
    exact ⟨rfl, Below.refl _ _⟩

set_option maxRecDepth 100000 in
set_option maxHeartbeats 3200000 in
theorem rright4_any (v : Value) (xs : List ByteArray) (w : World) (hv : Strs w v xs) (hN : xs.length ≤ 1048576) :
    Calls Tryd.prog 82 #[v, .int .i64 4] w fun e w' => e = .returned (.bool (rightB xs 4)) ∧ w' = w := by
  obtain ⟨p, c, rfl, hc, hcell⟩ := hv
  have hrb : ∀ b, xs.any noChunk = b → rightB xs 4 = (decide (xs.length ≤ 16) && !b) := fun b hb => by unfold rightB; rw [hb]
  have HRB := Lib.hid hrb
  have HC := Lib.hid hcell
  obtain ⟨n, hn⟩ : ∃ n, xs.length = n := ⟨_, rfl⟩
  rw [hn] at hN hc HRB ⊢
  have HN := Lib.hid hn
  clear hcell hrb hn
  by_cases hle : n ≤ 16
  · have g1 : decide ((16 : Int) < n) = false := by simp; omega
    have g2 : decide ((256 : Int) < n) = false := by simp; omega
    have HR1 := Lib.hid (fun b hb => (HRB.out b hb).trans (by rw [decide_eq_true hle, Bool.true_and]))
    obtain ⟨R, hR⟩ : ∃ R, rightB xs 4 = R := ⟨_, rfl⟩
    rw [hR] at HR1 ⊢
    clear HRB hR
    go_enter Tryd.func82, Tryd.ntmps82
    go_wp2_with fail
    go_loopw [5] (fun i wr => ∃ k : Nat, k ≤ n ∧ i = .int .i64 k ∧ wr = w ∧ Aside (∀ j x, j < k → xs[j]? = some x → noChunk x = false)) (fun i _ => n - (RowKit.intOf i).toNat)
    case atStart => exact ⟨0, Nat.zero_le _, rfl, rfl, fun _ _ h => absurd h (Nat.not_lt_zero _)⟩
    case round =>
      obtain ⟨k, hk, rfl, rfl, HS⟩ := hrel
      by_cases hlt : k < n
      · obtain ⟨x, hx⟩ : ∃ x, xs[k]? = some x := ⟨_, List.getElem?_eq_getElem (by rw [HN.out]; exact hlt)⟩
        obtain ⟨bk, o, rfl, hbk, hcl⟩ : ∃ bk o, p = some ⟨bk, o, none⟩ ∧ bk < wr.heap.size ∧ ∀ (j : Nat) x, xs[j]? = some x → wr.cell? ⟨bk, o + j, none⟩ = some (.string x) := by
          rcases HC.out with h | ⟨bk, o, h1, h2, h3⟩
          · rw [h] at hx; cases hx
          · exact ⟨bk, o, h1, h2, h3⟩
        have c0 := hcl k x hx
        have g3 : (0 : Int) ≤ k := by omega
        have g4 : (k : Int) < n := by omega
        have HX := Lib.hid hx
        clear hcl hx
        by_cases h32 : x.size = 32
        · have g5 : ((x.size : Int) != 32) = false := by rw [bne_eq_false_iff_eq]; omega
          go_wp2
          go_roundw
          case rel => exact ⟨k + 1, by omega, by go_num, trivial, (fun j y hj hy => by
            rcases Nat.lt_succ_iff_lt_or_eq.1 hj with h | rfl
            · exact HS.out j y h hy
            · rw [HX.out] at hy
              cases hy
              unfold noChunk
              simp [h32])⟩
          case measure => simp [RowKit.intOf]; omega
        · have g5 : ((x.size : Int) != 32) = true := by rw [bne_iff_ne]; omega
          have hany : xs.any noChunk = true := anyB_hit HX.out (by unfold noChunk; simp [h32])
          have hr := HR1.out true hany
          go_wp2
          go_ret
          exact ⟨by rw [hr]; rfl, rfl⟩
      · obtain rfl : k = n := by omega
        have hany : xs.any noChunk = false := anyB_miss (fun j x hj hx => HS.out j x (by rw [HN.out] at hj; exact hj) hx)
        have hr := HR1.out false hany
        go_wp2
        go_ret
        exact ⟨by rw [hr]; rfl, rfl⟩
  · have g1 : decide ((16 : Int) < n) = true := by simp; omega
    have hr := HRB.out _ rfl
    rw [decide_eq_false hle, Bool.false_and] at hr
    rw [hr]
    clear HRB hr
    go_enter Tryd.func82, Tryd.ntmps82
    go_wp2
    go_ret
    exact ⟨rfl, rfl⟩

/-- what Root gives -/
def rrootV4 (xs : List ByteArray) : Value := if rightB xs 4 then .tuple #[.string (rootB 4 xs noughtB), .int .i64 0] else .tuple #[.string ⟨#[]⟩, .int .i64 80]
set_option maxRecDepth 100000 in
set_option maxHeartbeats 3200000 in
theorem rroot4_any (v : Value) (xs : List ByteArray) (w : World) (hv : Strs w v xs) (h0 : xs ≠ []) (hN : xs.length ≤ 1048576) :
    Calls Tryd.prog 40 #[v, .int .i64 4] w fun e w' => e = .returned (rrootV4 xs) ∧ Below w.heap.size w w' := by
  have hr := rright4_any v xs w hv hN
  have hv' := hv
  obtain ⟨p, c, rfl, -⟩ := hv
  unfold rrootV4
  cases hb : rightB xs 4 with
  | true =>
    rw [hb] at hr
    obtain ⟨hl, hs⟩ := rightB_chunks hb
    have hlv := level4_any _ xs 4 w hv' (Nat.le_refl _) h0 hl (fun x hx => by have := hs x hx; omega)
    rw [padB_root 4 xs hl] at hlv
    obtain ⟨r, hrr⟩ : ∃ r, rootB 4 xs noughtB = r := ⟨_, rfl⟩
    rw [hrr] at hlv ⊢
    simp only [if_true]
    have HR := Lib.hid hr
    have HL := Lib.hid hlv
    clear hr hlv hrr hl hs hb hv' h0 hN
    go_enter Tryd.func40, Tryd.ntmps40
    go_wp2_with fail
    refine HR.out.mono ?_
    rintro e w1 ⟨rfl, rfl⟩
    go_wp2_with fail
    refine HL.out.mono ?_
    rintro e w2 ⟨v2, rfl, ho2, hb2⟩
    obtain ⟨g, c2, hv2, -, -, hc2, -⟩ := ho2.opened (by simp)
    subst hv2
    have c0 := hc2 0 r rfl
    clear hc2 ho2
    go_wp2
    go_ret2
    exact ⟨rfl, hb2⟩
  | false =>
    rw [hb] at hr
    simp only [Bool.false_eq_true, if_false]
    have HR := Lib.hid hr
    clear hr hb hv' h0 hN
    go_enter Tryd.func40, Tryd.ntmps40
    go_wp2_with fail
    refine HR.out.mono ?_
    rintro e w1 ⟨rfl, rfl⟩
    go_wp2
    go_ret2
    exact ⟨rfl, Below.refl _ _⟩

theorem rexecRoot_any (a b : ByteArray) (n : Nat) (w : World) (hn : n < 18446744073709551616) :
    Calls Tryd.prog 15 #[.agg #[.string a, .string b, .int .u64 n]] w fun e w' => e = .returned (rootedV (execChunks a b n) 2) ∧ Below w.heap.size w w' := by
  unfold rootedV
  cases h : rightB (execChunks a b n) 2 with
  | true => exact rexecRoot_good a b n w hn h
  | false => exact rexecRoot_bad a b n w hn h
set_option maxRecDepth 100000 in
set_option maxHeartbeats 3200000 in
theorem rroot_any (n m : Nat) (a b c : ByteArray) (w : World) (hn : n < 18446744073709551616) (hm : m < 18446744073709551616) :
    Calls Tryd.prog 18 #[.agg #[.int .u64 n, .int .u64 m, .string a, .string b, .string c]] w fun e w' => e = .returned (rootedV (hdrChunks n m a b c) 3) ∧ Below w.heap.size w w' := by
  have hc := fun W => rchunks_any n m a b c W hn hm
  have hr := fun v W (h : Strs W v (hdrChunks n m a b c)) => rroot3_any v (hdrChunks n m a b c) W h (by simp [hdrChunks]) (by simp [hdrChunks])
  have hl : (hdrChunks n m a b c).length = 5 := rfl
  have hv : ∃ (r : ByteArray) (s : Int), rrootV3 (hdrChunks n m a b c) = .tuple #[.string r, .int .i64 s] ∧ ((s = 0 ∧ rootedV (hdrChunks n m a b c) 3 = .tuple #[.string r, .int .i64 0]) ∨ (s = 80 ∧ rootedV (hdrChunks n m a b c) 3 = .tuple #[.string ⟨#[]⟩, .int .i64 130])) := by
    unfold rrootV3 rootedV
    split
    · exact ⟨_, _, rfl, .inl ⟨rfl, rfl⟩⟩
    · exact ⟨_, _, rfl, .inr ⟨rfl, rfl⟩⟩
  obtain ⟨r, s, hv1, hv2⟩ := hv
  rw [hv1] at hr
  obtain ⟨xs, hxs⟩ : ∃ xs, hdrChunks n m a b c = xs := ⟨_, rfl⟩
  rw [hxs] at hc hr hl hv2 ⊢
  obtain ⟨R, hR⟩ : ∃ R, rootedV xs 3 = R := ⟨_, rfl⟩
  rw [hR] at hv2 ⊢
  have HC := Lib.hid hc
  have HR := Lib.hid hr
  clear hc hr hv1 hxs hR hn hm
  go_enter Tryd.func18, Tryd.ntmps18
  have b1 : Below w.heap.size w (w.alloc (.cells #[.int .u64 n, .int .u64 m, .string a, .string b, .string c] 24)) := (Below.refl w.heap.size w).alloc (Nat.le_refl _) _
  have HB1 := Lib.hid b1
  clear b1
  go_wp2_with fail
  refine (HC.out _).mono ?_
  rintro e w2 ⟨v2, rfl, hst, hb2⟩
  have hb2' : Below w.heap.size w w2 := HB1.out.trans (hb2.mono HB1.out.size)
  obtain ⟨p2, c2, hvv, -⟩ := id hst
  rw [hl] at hvv
  have H2 := Lib.hid (HR.out v2 w2 hst)
  have HB2 := Lib.hid hb2'
  subst hvv
  clear hst hb2 hb2' HB1
  go_wp2_with fail
  refine H2.out.mono ?_
  rintro e w4 ⟨rfl, hb4⟩
  have HB4 := Lib.hid (HB2.out.trans (hb4.mono HB2.out.size))
  clear hb4
  rcases hv2 with ⟨rfl, rfl⟩ | ⟨rfl, rfl⟩
  · go_wp2
    go_ret2
    exact ⟨rfl, HB4.out⟩
  · go_wp2
    go_ret2
    exact ⟨rfl, HB4.out⟩
set_option maxRecDepth 100000 in
set_option maxHeartbeats 3200000 in
theorem rcheck2_root (v : Value) (leaf s0 s1 root : ByteArray) (w : World) (hv : Strs w v [s0, s1]) (h1 : leaf.size = 32) (h2 : ¬ root.size = 32) :
    Calls Tryd.prog 45 #[.string leaf, v, .int .u64 2, .string root] w fun e w' => e = .returned (.bool false) ∧ Below w.heap.size w w' := by
  obtain ⟨p, c, rfl, -, -⟩ := hv
  have g1 : ((leaf.size : Int) != 32) = false := by rw [bne_eq_false_iff_eq]; omega
  have g2 : ((root.size : Int) != 32) = true := by rw [bne_iff_ne]; omega
  clear h1 h2
  go_enter Tryd.func45, Tryd.ntmps45
  go_wp2
  go_ret
  exact ⟨rfl, Below.refl _ _⟩
set_option maxRecDepth 100000 in
set_option maxHeartbeats 3200000 in
theorem rcheck2_walk (v : Value) (leaf s0 s1 root y : ByteArray) (b0 b1 R : Bool) (w : World) (hv : Strs w v [s0, s1]) (g1 : ((leaf.size : Int) != 32) = false) (g2 : ((root.size : Int) != 32) = false)
    (g3 : ((s0.size : Int) != 32) = b0) (g4 : ((s1.size : Int) != 32) = b1) (h0 : b0 = true → R = false) (h1 : b1 = true → R = false) (h2 : b0 = false → b1 = false → R = (y.toList == root.toList))
    (hw : b0 = false → b1 = false → ∀ W, Strs W v [s0, s1] → Calls Tryd.prog 16 #[.string leaf, v, .int .u64 2] W fun e w' => ∃ vl, e = .returned (.tuple #[vl, .string y]) ∧ Below W.heap.size W w') :
    Calls Tryd.prog 45 #[.string leaf, v, .int .u64 2, .string root] w fun e w' => e = .returned (.bool R) ∧ Below w.heap.size w w' := by
  have HV := Lib.hid hv
  obtain ⟨p, c, rfl, hc, hcell⟩ := hv
  obtain ⟨bk, o, rfl, hbk, hcl⟩ := hcell.resolve_left (by simp)
  have c0 : w.cell? ⟨bk, o, none⟩ = some (.string s0) := by simpa using hcl 0 s0 rfl
  have c1 : w.cell? ⟨bk, o + 1, none⟩ = some (.string s1) := hcl 1 s1 rfl
  have HW := Lib.hid hw
  have K0 := Lib.hid h0
  have K1 := Lib.hid h1
  have K2 := Lib.hid h2
  clear hcell hcl hw h0 h1 h2
  go_enter Tryd.func45, Tryd.ntmps45
  go_wp2_with fail
  go_loopw [9] (fun i wr => wr = w ∧ (i = .int .i64 0 ∨ (i = .int .i64 1 ∧ b0 = false) ∨ (i = .int .i64 2 ∧ b0 = false ∧ b1 = false))) (fun i _ => 2 - (RowKit.intOf i).toNat)
  case atStart => exact ⟨rfl, .inl rfl⟩
  case round =>
    obtain ⟨rfl, rfl | ⟨rfl, hb0⟩ | ⟨rfl, hb0, hb1⟩⟩ := hrel
    · cases b0 with
      | true =>
        have hr := K0.out rfl
        subst hr
        go_wp2
        go_ret
        exact ⟨rfl, Below.refl _ _⟩
      | false =>
        go_wp2
        go_roundw
        case rel => exact ⟨trivial, .inr (.inl ⟨rfl, trivial⟩)⟩
        case measure => simp [RowKit.intOf]
    · subst hb0
      cases b1 with
      | true =>
        have hr := K1.out rfl
        subst hr
        go_wp2
        go_ret
        exact ⟨rfl, Below.refl _ _⟩
      | false =>
        go_wp2
        go_roundw
        case rel => exact ⟨trivial, .inr (.inr ⟨rfl, trivial, trivial⟩)⟩
        case measure => simp [RowKit.intOf]
    · subst hb0
      subst hb1
      have hr := K2.out rfl rfl
      subst hr
      have H3 := Lib.hid (HW.out rfl rfl wr HV.out)
      go_wp2_with fail
      refine H3.out.mono ?_
      rintro e w2 ⟨vl, rfl, hb2⟩
      go_wp2
      go_ret
      exact ⟨rfl, hb2⟩
theorem size32 (s : ByteArray) : ((s.size : Int) != 32) = !decide (s.size = 32) := by
  by_cases h : s.size = 32
  · rw [h]; rfl
  · rw [decide_eq_false h]
    show _ = true
    rw [bne_iff_ne]; omega
theorem rcheck2_any (v : Value) (leaf s0 s1 root : ByteArray) (w : World) (hv : Strs w v [s0, s1]) (h1 : leaf.size = 32) :
    Calls Tryd.prog 45 #[.string leaf, v, .int .u64 2, .string root] w fun e w' => e = .returned (.bool (check2 leaf s0 s1 root)) ∧ Below w.heap.size w w' := by
  by_cases h2 : root.size = 32
  · refine rcheck2_walk v leaf s0 s1 root (hash2 s1 (hash2 leaf s0)) _ _ _ w hv (by rw [size32, h1]; rfl) (by rw [size32, h2]; rfl) (size32 s0) (size32 s1) ?_ ?_ ?_ ?_
    · intro h
      unfold check2
      have : decide (s0.size = 32) = false := by simpa using h
      rw [this]; simp
    · intro h
      unfold check2
      have : decide (s1.size = 32) = false := by simpa using h
      rw [this]; simp
    · intro g0 g1
      have e0 : s0.size = 32 := by simpa using g0
      have e1 : s1.size = 32 := by simpa using g1
      unfold check2
      rw [h1, h2, e0, e1]
      simp
    · intro g0 g1 W hs
      have e0 : s0.size = 32 := by simpa using g0
      have e1 : s1.size = 32 := by simpa using g1
      refine (rway2_any leaf s0 s1 v W hs (by omega) (by omega) (by omega)).mono ?_
      rintro e w' ⟨vl, rfl, _, hb⟩
      exact ⟨vl, by rw [← shaB_append, ← shaB_append], hb⟩
  · have e : check2 leaf s0 s1 root = false := by
      unfold check2
      rw [decide_eq_false h2]; simp
    rw [e]
    exact rcheck2_root v leaf s0 s1 root w hv h1 h2
set_option maxRecDepth 100000 in
set_option maxHeartbeats 3200000 in
theorem rholds_bad1 (n m : Nat) (a b c d e : ByteArray) (k : Nat) (p : Option Addr) (l cp : Nat) (t1 t2 : ByteArray) (c2 : Int) (w : World) (hK : KTab w)
    (h1 : ∀ W, KTab W → Calls Tryd.prog 18 #[.agg #[.int .u64 n, .int .u64 m, .string a, .string b, .string c]] W fun x w' => x = .returned (.tuple #[.string t1, .int .i64 130]) ∧ Below W.heap.size W w')
    (h2 : ∀ W, KTab W → Calls Tryd.prog 15 #[.agg #[.string d, .string e, .int .u64 k]] W fun x w' => x = .returned (.tuple #[.string t2, .int .i64 c2]) ∧ Below W.heap.size W w') :
    Calls Tryd.prog 22 #[.agg #[.int .u64 n, .int .u64 m, .string a, .string b, .string c, .string d, .string e, .int .u64 k, .slice p l cp]] w fun x w' => x = .returned (.bool false) ∧ Below w.heap.size w w' := by
  have H1 := Lib.hid h1
  have H2 := Lib.hid h2
  have HK := Lib.hid hK
  clear h1 h2 hK
  go_enter Tryd.func22, Tryd.ntmps22
  go_wp2_with fail
  have hKa : KTab (w.alloc (.cells #[.int .u64 n, .int .u64 m, .string a, .string b, .string c, .string d, .string e, .int .u64 k, .slice p l cp] 37)) := HK.out.below ((Below.refl _ _).alloc (Nat.le_refl _) _)
  refine (H1.out _ hKa).mono ?_
  rintro x w1 ⟨rfl, hb1⟩
  have hc1 : ∀ j u, [Value.int .u64 n, .int .u64 m, .string a, .string b, .string c, .string d, .string e, .int .u64 k, .slice p l cp][j]? = some u → w1.cell? ⟨w.heap.size, j, none⟩ = some u := fun j u h => by
    refine (hb1.cell (p := ⟨w.heap.size, j, none⟩) (by simp)).trans ?_
    rw [World.cell?_alloc_mark]; simpa using h
  have hB1 : Below w.heap.size w w1 := ((Below.refl _ _).alloc (Nat.le_refl _) _).trans (hb1.mono (by simp))
  have hl1 : w.heap.size < w1.heap.size := World.block_lt_of_cell? w1 _ (hc1 0 _ rfl)
  have HK1 := Lib.hid (HK.out.below hB1)
  have q5 := hc1 5 _ rfl
  have q6 := hc1 6 _ rfl
  have q7 := hc1 7 _ rfl
  have HB1 := Lib.hid hB1
  have HC1 := Lib.hid hc1
  clear hb1 hc1 hB1 hKa
  go_wp2_with fail
  refine (H2.out _ HK1.out).mono ?_
  rintro x w2 ⟨rfl, hb2⟩
  have HB2 := Lib.hid (HB1.out.trans (hb2.mono HB1.out.size))
  have q4 : w2.cell? ⟨w.heap.size, 4, none⟩ = some (.string c) := (hb2.cell (p := ⟨w.heap.size, 4, none⟩) hl1).trans (HC1.out 4 _ rfl)
  have q8 : w2.cell? ⟨w.heap.size, 8, none⟩ = some (.slice p l cp) := (hb2.cell (p := ⟨w.heap.size, 8, none⟩) hl1).trans (HC1.out 8 _ rfl)
  clear hb2 q5 q6 q7
  go_wp2
  go_ret
  exact ⟨rfl, HB2.out⟩
set_option maxRecDepth 100000 in
set_option maxHeartbeats 3200000 in
theorem rholds_bad2 (n m : Nat) (a b c d e : ByteArray) (k : Nat) (p : Option Addr) (l cp : Nat) (t1 t2 : ByteArray) (w : World) (hK : KTab w)
    (h1 : ∀ W, KTab W → Calls Tryd.prog 18 #[.agg #[.int .u64 n, .int .u64 m, .string a, .string b, .string c]] W fun x w' => x = .returned (.tuple #[.string t1, .int .i64 0]) ∧ Below W.heap.size W w')
    (h2 : ∀ W, KTab W → Calls Tryd.prog 15 #[.agg #[.string d, .string e, .int .u64 k]] W fun x w' => x = .returned (.tuple #[.string t2, .int .i64 130]) ∧ Below W.heap.size W w') :
    Calls Tryd.prog 22 #[.agg #[.int .u64 n, .int .u64 m, .string a, .string b, .string c, .string d, .string e, .int .u64 k, .slice p l cp]] w fun x w' => x = .returned (.bool false) ∧ Below w.heap.size w w' := by
  have H1 := Lib.hid h1
  have H2 := Lib.hid h2
  have HK := Lib.hid hK
  clear h1 h2 hK
  go_enter Tryd.func22, Tryd.ntmps22
  go_wp2_with fail
  have hKa : KTab (w.alloc (.cells #[.int .u64 n, .int .u64 m, .string a, .string b, .string c, .string d, .string e, .int .u64 k, .slice p l cp] 37)) := HK.out.below ((Below.refl _ _).alloc (Nat.le_refl _) _)
  refine (H1.out _ hKa).mono ?_
  rintro x w1 ⟨rfl, hb1⟩
  have hc1 : ∀ j u, [Value.int .u64 n, .int .u64 m, .string a, .string b, .string c, .string d, .string e, .int .u64 k, .slice p l cp][j]? = some u → w1.cell? ⟨w.heap.size, j, none⟩ = some u := fun j u h => by
    refine (hb1.cell (p := ⟨w.heap.size, j, none⟩) (by simp)).trans ?_
    rw [World.cell?_alloc_mark]; simpa using h
  have hB1 : Below w.heap.size w w1 := ((Below.refl _ _).alloc (Nat.le_refl _) _).trans (hb1.mono (by simp))
  have hl1 : w.heap.size < w1.heap.size := World.block_lt_of_cell? w1 _ (hc1 0 _ rfl)
  have HK1 := Lib.hid (HK.out.below hB1)
  have q5 := hc1 5 _ rfl
  have q6 := hc1 6 _ rfl
  have q7 := hc1 7 _ rfl
  have HB1 := Lib.hid hB1
  have HC1 := Lib.hid hc1
  clear hb1 hc1 hB1 hKa
  go_wp2_with fail
  refine (H2.out _ HK1.out).mono ?_
  rintro x w2 ⟨rfl, hb2⟩
  have HB2 := Lib.hid (HB1.out.trans (hb2.mono HB1.out.size))
  have q4 : w2.cell? ⟨w.heap.size, 4, none⟩ = some (.string c) := (hb2.cell (p := ⟨w.heap.size, 4, none⟩) hl1).trans (HC1.out 4 _ rfl)
  have q8 : w2.cell? ⟨w.heap.size, 8, none⟩ = some (.slice p l cp) := (hb2.cell (p := ⟨w.heap.size, 8, none⟩) hl1).trans (HC1.out 8 _ rfl)
  clear hb2 q5 q6 q7
  go_wp2
  go_ret
  exact ⟨rfl, HB2.out⟩
set_option maxRecDepth 100000 in
set_option maxHeartbeats 3200000 in
theorem rholds_len (n m : Nat) (a b c d e : ByteArray) (k : Nat) (p : Option Addr) (l cp : Nat) (t1 t2 : ByteArray) (w : World) (hK : KTab w)
    (h1 : ∀ W, KTab W → Calls Tryd.prog 18 #[.agg #[.int .u64 n, .int .u64 m, .string a, .string b, .string c]] W fun x w' => x = .returned (.tuple #[.string t1, .int .i64 0]) ∧ Below W.heap.size W w')
    (h2 : ∀ W, KTab W → Calls Tryd.prog 15 #[.agg #[.string d, .string e, .int .u64 k]] W fun x w' => x = .returned (.tuple #[.string t2, .int .i64 0]) ∧ Below W.heap.size W w') (hlen : ((l : Int) == 2) = false) :
    Calls Tryd.prog 22 #[.agg #[.int .u64 n, .int .u64 m, .string a, .string b, .string c, .string d, .string e, .int .u64 k, .slice p l cp]] w fun x w' => x = .returned (.bool false) ∧ Below w.heap.size w w' := by
  have H1 := Lib.hid h1
  have H2 := Lib.hid h2
  have HK := Lib.hid hK
  clear h1 h2 hK
  go_enter Tryd.func22, Tryd.ntmps22
  go_wp2_with fail
  have hKa : KTab (w.alloc (.cells #[.int .u64 n, .int .u64 m, .string a, .string b, .string c, .string d, .string e, .int .u64 k, .slice p l cp] 37)) := HK.out.below ((Below.refl _ _).alloc (Nat.le_refl _) _)
  refine (H1.out _ hKa).mono ?_
  rintro x w1 ⟨rfl, hb1⟩
  have hc1 : ∀ j u, [Value.int .u64 n, .int .u64 m, .string a, .string b, .string c, .string d, .string e, .int .u64 k, .slice p l cp][j]? = some u → w1.cell? ⟨w.heap.size, j, none⟩ = some u := fun j u h => by
    refine (hb1.cell (p := ⟨w.heap.size, j, none⟩) (by simp)).trans ?_
    rw [World.cell?_alloc_mark]; simpa using h
  have hB1 : Below w.heap.size w w1 := ((Below.refl _ _).alloc (Nat.le_refl _) _).trans (hb1.mono (by simp))
  have hl1 : w.heap.size < w1.heap.size := World.block_lt_of_cell? w1 _ (hc1 0 _ rfl)
  have HK1 := Lib.hid (HK.out.below hB1)
  have q5 := hc1 5 _ rfl
  have q6 := hc1 6 _ rfl
  have q7 := hc1 7 _ rfl
  have HB1 := Lib.hid hB1
  have HC1 := Lib.hid hc1
  clear hb1 hc1 hB1 hKa
  go_wp2_with fail
  refine (H2.out _ HK1.out).mono ?_
  rintro x w2 ⟨rfl, hb2⟩
  have HB2 := Lib.hid (HB1.out.trans (hb2.mono HB1.out.size))
  have q4 : w2.cell? ⟨w.heap.size, 4, none⟩ = some (.string c) := (hb2.cell (p := ⟨w.heap.size, 4, none⟩) hl1).trans (HC1.out 4 _ rfl)
  have q8 : w2.cell? ⟨w.heap.size, 8, none⟩ = some (.slice p l cp) := (hb2.cell (p := ⟨w.heap.size, 8, none⟩) hl1).trans (HC1.out 8 _ rfl)
  clear hb2 q5 q6 q7
  go_wp2
  go_ret
  exact ⟨rfl, HB2.out⟩
set_option maxRecDepth 100000 in
set_option maxHeartbeats 3200000 in
theorem rholds_two (n m : Nat) (a b c d e : ByteArray) (k : Nat) (p : Option Addr) (cp : Nat) (t1 t2 : ByteArray) (w : World) (hK : KTab w)
    (h1 : ∀ W, KTab W → Calls Tryd.prog 18 #[.agg #[.int .u64 n, .int .u64 m, .string a, .string b, .string c]] W fun x w' => x = .returned (.tuple #[.string t1, .int .i64 0]) ∧ Below W.heap.size W w')
    (h2 : ∀ W, KTab W → Calls Tryd.prog 15 #[.agg #[.string d, .string e, .int .u64 k]] W fun x w' => x = .returned (.tuple #[.string t2, .int .i64 0]) ∧ Below W.heap.size W w') (s0 s1 : ByteArray) (hv : Strs w (.slice p 2 cp) [s0, s1]) (hsz : t2.size = 32) :
    Calls Tryd.prog 22 #[.agg #[.int .u64 n, .int .u64 m, .string a, .string b, .string c, .string d, .string e, .int .u64 k, .slice p 2 cp]] w fun x w' => x = .returned (.bool (check2 t2 s0 s1 c)) ∧ Below w.heap.size w w' := by
  have H1 := Lib.hid h1
  have H2 := Lib.hid h2
  have HK := Lib.hid hK
  have HV := Lib.hid hv
  clear hv
  clear h1 h2 hK
  go_enter Tryd.func22, Tryd.ntmps22
  go_wp2_with fail
  have hKa : KTab (w.alloc (.cells #[.int .u64 n, .int .u64 m, .string a, .string b, .string c, .string d, .string e, .int .u64 k, .slice p 2 cp] 37)) := HK.out.below ((Below.refl _ _).alloc (Nat.le_refl _) _)
  refine (H1.out _ hKa).mono ?_
  rintro x w1 ⟨rfl, hb1⟩
  have hc1 : ∀ j u, [Value.int .u64 n, .int .u64 m, .string a, .string b, .string c, .string d, .string e, .int .u64 k, .slice p 2 cp][j]? = some u → w1.cell? ⟨w.heap.size, j, none⟩ = some u := fun j u h => by
    refine (hb1.cell (p := ⟨w.heap.size, j, none⟩) (by simp)).trans ?_
    rw [World.cell?_alloc_mark]; simpa using h
  have hB1 : Below w.heap.size w w1 := ((Below.refl _ _).alloc (Nat.le_refl _) _).trans (hb1.mono (by simp))
  have hl1 : w.heap.size < w1.heap.size := World.block_lt_of_cell? w1 _ (hc1 0 _ rfl)
  have HK1 := Lib.hid (HK.out.below hB1)
  have q5 := hc1 5 _ rfl
  have q6 := hc1 6 _ rfl
  have q7 := hc1 7 _ rfl
  have HB1 := Lib.hid hB1
  have HC1 := Lib.hid hc1
  clear hb1 hc1 hB1 hKa
  go_wp2_with fail
  refine (H2.out _ HK1.out).mono ?_
  rintro x w2 ⟨rfl, hb2⟩
  have HB2 := Lib.hid (HB1.out.trans (hb2.mono HB1.out.size))
  have q4 : w2.cell? ⟨w.heap.size, 4, none⟩ = some (.string c) := (hb2.cell (p := ⟨w.heap.size, 4, none⟩) hl1).trans (HC1.out 4 _ rfl)
  have q8 : w2.cell? ⟨w.heap.size, 8, none⟩ = some (.slice p 2 cp) := (hb2.cell (p := ⟨w.heap.size, 8, none⟩) hl1).trans (HC1.out 8 _ rfl)
  clear hb2 q5 q6 q7
  have H3 := Lib.hid (rcheck2_any _ t2 s0 s1 c w2 (HV.out.below HB2.out) hsz)
  clear hsz
  go_wp2_with fail
  refine H3.out.mono ?_
  rintro x w3 ⟨rfl, hb3⟩
  go_wp2
  go_ret
  exact ⟨rfl, HB2.out.trans (hb3.mono HB2.out.size)⟩
theorem rholds_any (n m : Nat) (a b c d e : ByteArray) (k : Nat) (v : Value) (br : List ByteArray) (w : World) (hn : n < 18446744073709551616) (hm : m < 18446744073709551616) (hk : k < 18446744073709551616)
    (hv : Strs w v br) (hK : KTab w) :
    Calls Tryd.prog 22 #[.agg #[.int .u64 n, .int .u64 m, .string a, .string b, .string c, .string d, .string e, .int .u64 k, v]] w fun x w' => x = .returned (.bool (holdsB n m a b c d e k br)) ∧ Below w.heap.size w w' := by
  have h1 := fun W (_ : KTab W) => rroot_any n m a b c W hn hm
  have h2 := fun W (_ : KTab W) => rexecRoot_any d e k W hk
  have hsz := rootB2_size (execChunks d e k) noughtB
  have hv' := hv
  obtain ⟨p, cp, rfl, -⟩ := hv
  have hr1 : rootedV (hdrChunks n m a b c) 3 = if rightB (hdrChunks n m a b c) 3 then .tuple #[.string (rootB 3 (hdrChunks n m a b c) noughtB), .int .i64 0] else .tuple #[.string ⟨#[]⟩, .int .i64 130] := rfl
  have hr2 : rootedV (execChunks d e k) 2 = if rightB (execChunks d e k) 2 then .tuple #[.string (rootB 2 (execChunks d e k) noughtB), .int .i64 0] else .tuple #[.string ⟨#[]⟩, .int .i64 130] := rfl
  unfold holdsB
  cases g1 : rightB (hdrChunks n m a b c) 3 with
  | false =>
    rw [g1, if_neg (by simp)] at hr1
    rw [hr1] at h1
    obtain ⟨t2, c2, ht⟩ := rootedV_form (execChunks d e k) 2
    rw [ht] at h2
    exact rholds_bad1 n m a b c d e k p _ cp _ t2 c2 w hK h1 h2
  | true =>
    rw [g1, if_pos rfl] at hr1
    rw [hr1] at h1
    cases g2 : rightB (execChunks d e k) 2 with
    | false =>
      rw [g2, if_neg (by simp)] at hr2
      rw [hr2] at h2
      exact rholds_bad2 n m a b c d e k p _ cp _ _ w hK h1 h2
    | true =>
      rw [g2, if_pos rfl] at hr2
      rw [hr2] at h2
      by_cases hl : br.length = 2
      · match br, hl, hv' with
        | [s0, s1], hl, hv' => exact rholds_two n m a b c d e k p cp _ _ w hK h1 h2 s0 s1 hv' hsz
      · rw [decide_eq_false hl]
        exact rholds_len n m a b c d e k p _ cp _ _ w hK h1 h2 (by rw [beq_eq_false_iff_ne]; omega)
end Go.Proofs.YtfbopnebfdkhdaaDoor
