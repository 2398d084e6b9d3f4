/- Contracts of pharosref08.level, Sums. -/
import Derived.Test.YtfbopnebfdkhdaaDoorRf8A
import Derived.Test.YtfbopnebfdkhdaaDoorRf2E
import Derived.OwnWalk
namespace Go.Proofs.YtfbopnebfdkhdaaDoor
open Go.RowKit Go.Shelf Go.Lib
attribute [local go_sem] Oper.semAt_some

theorem append_place {P : Program} (w : World) (base : Nat) (t ty e : TypeId) (i : TypeInfo) (z : Value) (bytes : Nat) (ht : P.underlying t = some (.slice e)) (hi : P.info? e = some i) (hz : i.zero = some z)
    (hsize : i.size = 1) (hby : i.bytes = bytes) (hzs : z.cells.size = 1)
    (v : Value) (n : Nat) (xs : List Value) (hown : w.ownsRow base e 1 v n xs)
    (a : Addr) (m c : Nat) (news : List Value) (hl : news.length = m * 1) (hnews : ∀ j u, news[j]? = some u → w.cell? (a.add j) = some u) (h1 : ∀ u ∈ news, u.oneCell' = true)
    (h63 : n + m ≤ maxLen) (hbytes : (n + m) * bytes ≤ 140737488355328) (v' : Value) (w' : World) (hrun : (Builtin.append_ #[t, t] ty #[v, .slice (some a) m c]).run P w = .ok v' w') :
    v'.ownBlock = v.ownBlock ∨ ∀ k, v'.ownBlock = some k → w.heap.size ≤ k := by
  have hsmall : n + m ≤ 9223372036854775807 := by simp only [maxLen] at h63; omega
  subst hby
  rcases hown.2 with ⟨rfl, rfl⟩ | ⟨g, cap, cur, rfl, hbg, hg, hnc, hcm, hcs, htake⟩
  · have hx : xs = [] := List.eq_nil_of_length_eq_zero (by simpa using hown.1)
    subst hx
    obtain ⟨v1, w1, hr, h2, _⟩ := run_append_own (P := P) w w.heap.size t ty e i z 1 i.bytes ht hi hz hsize rfl hzs (by decide) _ _ _ (World.ownsRow_nil w w.heap.size e 1) a m c news hl hnews h1 h63 hbytes (Nat.le_refl _)
    rw [hr] at hrun
    cases hrun
    exact .inr fun k hk => (World.ownsRow.lt h2 k hk).1
  · by_cases hroom : n + m ≤ cap
    · have hr := run_append_room (P := P) w t ty e i ht hi g n cap cur hg a m c news (by rw [hsize]; exact hl) hnews h1 hroom (by rw [hsize, hl, hcs, ← Nat.add_mul]; exact Nat.mul_le_mul_right _ hroom)
      rw [hr] at hrun
      cases hrun
      exact .inl rfl
    · have holds : ∀ j u, xs[j]? = some u → w.cell? ((⟨g, 0, none⟩ : Addr).add j) = some u := hown.cells (g := g) rfl
      have hr := run_append_grow (P := P) w t ty e i z ht hi hz ⟨g, 0, none⟩ n cap xs (by rw [hsize]; exact hown.1) holds a m c news (by rw [hsize]; exact hl) hnews (by omega) (by omega) (growslice_fits (by omega) hbytes)
      rw [hr] at hrun
      cases hrun
      exact .inr fun k hk => by cases hk; exact Nat.le_refl _
theorem run_appendTs {P : Program} (base : Nat) (w : World) (t ty : TypeId) (ht : P.underlying t = some (.slice 9)) (hi : (P.info? 9).map (fun i => (i.zero, i.size, i.bytes)) = some (some (.string ⟨#[]⟩), 1, 16))
    (v : Value) (l : List ByteArray) (hown : OwnS base w v l)
    (ad : Addr) (m c : Nat) (news : List ByteArray) (hl : news.length = m) (hnews : ∀ (j : Nat) x, news[j]? = some x → w.cell? (ad.add j) = some (.string x))
    (h63 : l.length + m ≤ 1099511627776) (hbase : base ≤ w.heap.size) :
    ∃ v' w', (Builtin.append_ #[t, t] ty #[v, .slice (some ad) m c]).run P w = .ok v' w' ∧ OwnS base w' v' (l ++ news) ∧ w.grownBy w' v.ownBlock ∧ (v'.ownBlock = v.ownBlock ∨ ∀ k, v'.ownBlock = some k → w.heap.size ≤ k) := by
  obtain ⟨i0, hi0, hz0, hz1, hz2⟩ := info_parts hi
  have hpl := append_place w base t ty 9 i0 (.string ⟨#[]⟩) 16 ht hi0 hz0 hz1 hz2 rfl v l.length (l.map Value.string) hown ad m c (news.map Value.string) (by simp [hl]) (fun j u hu => by
    rw [List.getElem?_map] at hu
    cases hx : news[j]? with
    | none => rw [hx] at hu; cases hu
    | some x => rw [hx] at hu; cases hu; exact hnews j x hx) (by
    intro u hu
    obtain ⟨x, _, rfl⟩ := List.mem_map.1 hu
    rfl) (by unfold maxLen; omega) (by omega)
  obtain ⟨v', w', h1, h2, h3, _⟩ := run_append_own (P := P) w base t ty 9 i0 (.string ⟨#[]⟩) 1 16 ht hi0 hz0 hz1 hz2 rfl (by decide) v l.length (l.map Value.string) hown ad m c (news.map Value.string) (by simp [hl]) (fun j u hu => by
    rw [List.getElem?_map] at hu
    cases hx : news[j]? with
    | none => rw [hx] at hu; cases hu
    | some x => rw [hx] at hu; cases hu; exact hnews j x hx) (by
    intro u hu
    obtain ⟨x, _, rfl⟩ := List.mem_map.1 hu
    rfl) (by unfold maxLen; omega) (by omega) hbase
  refine ⟨v', w', h1, ?_, h3, hpl v' w' h1⟩
  unfold OwnS
  rw [List.map_append, List.length_append, hl]
  exact h2
/-- 'append(l, more..)' onto a row of texts -/
theorem wpList_appendTs {P : Program} {ops : Array Oper} {rest : List Oper} {o : Oper} {a : Act} {w : World} {Q : Exit → Act → World → Prop} (hgd : o.guard = none) (s x : Operand) (t : TypeId)
    (ho : o.op = .call { callee := .builtin .append, args := #[s, x], argTypes := #[t, t] })
    (base : Nat) (ht : P.underlying t = some (.slice 9)) (hi : (P.info? 9).map (fun i => (i.zero, i.size, i.bytes)) = some (some (.string ⟨#[]⟩), 1, 16))
    (v : Value) (l : List ByteArray) (hs : a.eval s = v) (hown : OwnS base w v l)
    (ad : Addr) (m c : Nat) (news : List ByteArray) (hx : a.eval x = .slice (some ad) m c) (hl : news.length = m) (hnews : ∀ (j : Nat) x, news[j]? = some x → w.cell? (ad.add j) = some (.string x))
    (h63 : l.length + m ≤ 1099511627776) (hbase : base ≤ w.heap.size)
    (h : ∀ v' w', OwnS base w' v' (l ++ news) → w.grownBy w' v.ownBlock → (v'.ownBlock = v.ownBlock ∨ ∀ k, v'.ownBlock = some k → w.heap.size ≤ k) → wpList P ops Q rest (a.put o.dst v') w') : wpList P ops Q (o :: rest) a w := by
  obtain ⟨v', w', hr, h2, h3, h4⟩ := run_appendTs (P := P) base w t o.type ht hi v l hown ad m c news hl hnews h63 hbase
  refine wpList_plain hgd fun K hK => ?_
  unfold Oper.wp execOp
  simp only [ho, resolve, invoke, builtin, Sem.run_bind, Sem.run_pure, Result.andThen_ok, List.map_toArray, List.map_cons, List.map_nil, hs, hx, hr]
  exact hK _ _ (h v' w' h2 h3 h4)
/-- the same, as one step of a region that draws its order -/
theorem step_appendTs {P : Program} {ops : Array Oper} {o : Oper} {a : Act} {w : World} {K : Act → World → Prop} {Q : Exit → Act → World → Prop} {E : Prop} (hw : Region.wanted o (yielded ops a.tmps) = true) (s x : Operand) (t : TypeId)
    (ho : o.op = .call { callee := .builtin .append, args := #[s, x], argTypes := #[t, t] })
    (base : Nat) (ht : P.underlying t = some (.slice 9)) (hi : (P.info? 9).map (fun i => (i.zero, i.size, i.bytes)) = some (some (.string ⟨#[]⟩), 1, 16))
    (v : Value) (l : List ByteArray) (hs : a.eval s = v) (hown : OwnS base w v l)
    (ad : Addr) (m c : Nat) (news : List ByteArray) (hx : a.eval x = .slice (some ad) m c) (hl : news.length = m) (hnews : ∀ (j : Nat) x, news[j]? = some x → w.cell? (ad.add j) = some (.string x))
    (h63 : l.length + m ≤ 1099511627776) (hbase : base ≤ w.heap.size)
    (hK : ∀ v' w', OwnS base w' v' (l ++ news) → w.grownBy w' v.ownBlock → (v'.ownBlock = v.ownBlock ∨ ∀ k, v'.ownBlock = some k → w.heap.size ≤ k) → K (a.put o.dst v') w') :
    if Region.wanted o (yielded ops a.tmps) = true then Oper.wp P o a w K Q else E := by
  rw [if_pos hw]
  obtain ⟨v', w', hr, h2, h3, h4⟩ := run_appendTs (P := P) base w t o.type ht hi v l hown ad m c news hl hnews h63 hbase
  unfold Oper.wp execOp
  simp only [ho, resolve, invoke, builtin, Sem.run_bind, Sem.run_pure, Result.andThen_ok, List.map_toArray, List.map_cons, List.map_nil, hs, hx, hr]
  exact hK _ _ h2 h3 h4
theorem one_at {P : Prop} {x y : ByteArray} {j : Nat} (h : [x][j]? = some y) (k : j = 0 → x = y → P) : P := by
  match j, h with
  | 0, h => exact k rfl (Option.some.inj h)
theorem OwnS.alloc {base : Nat} {w : World} {v : Value} {l : List ByteArray} (h : OwnS base w v l) (o : Obj) : OwnS base (w.alloc o) v l :=
  h.kept (World.grownBy_alloc w o none) (by cases hv : v.ownBlock <;> simp)
theorem infoStrZ : ∃ i0, Tryd.prog.info? 9 = some i0 ∧ i0.zero = some (.string ⟨#[]⟩) ∧ i0.size = 1 ∧ i0.bytes = 16 := info_parts infoStr
theorem halfs_take (l : List ByteArray) (i : Nat) (x y : ByteArray) (h : 2 * i + 1 < l.length) (hx : l[2 * i]? = some x) (hy : l[2 * i + 1]? = some y) : (halfs l).take (i + 1) = (halfs l).take i ++ [shaB (x ++ y)] := by
  rw [List.take_add_one]
  congr 1
  unfold halfs
  rw [List.getElem?_map, List.getElem?_range (by omega), shaB_append]
  simp [hx, hy]
theorem pairsB_take (l : List ByteArray) (i : Nat) (x y : ByteArray) (h : 2 * i + 1 < l.length) (hx : l[2 * i]? = some x) (hy : l[2 * i + 1]? = some y) : (pairsB l).take (i + 1) = (pairsB l).take i ++ [x ++ y] := by
  rw [List.take_add_one]
  congr 1
  unfold pairsB
  rw [List.getElem?_map, List.getElem?_range (by omega)]
  simp [hx, hy]
theorem pairsB_length (l : List ByteArray) : (pairsB l).length = l.length / 2 := by simp [pairsB]
theorem noughtB_eq : (⟨(List.replicate 32 0).toArray⟩ : ByteArray) = noughtB := rfl
theorem lvlB_mem (l : List ByteArray) (b : Nat) (hb : 32 ≤ b) (h : ∀ x ∈ l, x.size ≤ b) (u : Nat) : ∀ x ∈ lvlB l u, x.size ≤ b := by
  cases u with
  | zero => exact h
  | succ u => intro x hx; have := halfs_chunk _ x hx; omega
theorem lvlB_even (l : List ByteArray) (d u : Nat) (h : l.length = 2 ^ d) (hu : u < d) : (lvlB l u).length % 2 = 0 ∧ (lvlB l u).length ≤ 2 ^ d := by
  have e : (lvlB l u).length = 2 ^ (d - u) := by
    rw [lvlB_length, h]
    exact Nat.pow_div (by omega) (by omega)
  rw [e]
  refine ⟨?_, Nat.pow_le_pow_right (by omega) (by omega)⟩
  obtain ⟨k, hk⟩ : ∃ k, d - u = k + 1 := ⟨d - u - 1, by omega⟩
  rw [hk, Nat.pow_succ]; omega

set_option maxRecDepth 100000 in
set_option maxHeartbeats 3200000 in
theorem level3_any (v : Value) (xs : List ByteArray) (up : Nat) (w : World) (hv : Strs w v xs) (hup : up ≤ 3) (h0 : xs ≠ []) (hN : xs.length ≤ 8) (hxs : ∀ x ∈ xs, x.size ≤ 1048576) :
    Calls Tryd.prog 80 #[v, .int .i64 3, .int .i64 up] w fun e w' => ∃ v', e = .returned v' ∧ OwnS w.heap.size w' v' (lvlB (padB 3 xs) up) ∧ Below w.heap.size w w' := by
  obtain ⟨p, c, rfl, hc, hcell⟩ := hv
  obtain ⟨bk, o, rfl, hbk, hcl⟩ := hcell.resolve_left h0
  have hpl : (padB 3 xs).length = 8 := padB_length 3 xs hN
  have hps : ∀ x ∈ padB 3 xs, x.size ≤ 1048576 := by
    intro x hx
    unfold padB at hx
    rcases List.mem_append.1 hx with hx | hx
    · exact hxs x hx
    · rw [(List.mem_replicate.1 hx).2, noughtB_size]; omega
  have hpd : padB 3 xs = xs ++ List.replicate (8 - xs.length) noughtB := rfl
  obtain ⟨pl, hpe⟩ : ∃ pl, padB 3 xs = pl := ⟨_, rfl⟩
  rw [hpe] at hpl hps hpd ⊢
  have hnz := fun W => noughts_any 32 W (by omega)
  rw [noughtB_eq] at hnz
  obtain ⟨z, hz⟩ : ∃ z, noughtB = z := ⟨_, rfl⟩
  rw [hz] at hnz hpd
  obtain ⟨n, hn⟩ : ∃ n, xs.length = n := ⟨_, rfl⟩
  rw [hn] at hN hc hpd ⊢
  have h0n : 0 < n := by rw [← hn]; exact List.length_pos_iff.2 h0
  have HPL := Lib.hid hpl
  have HPS := Lib.hid hps
  have HPD := Lib.hid hpd
  have HNZ := Lib.hid hnz
  have HCL := Lib.hid hcl
  have HLN := Lib.hid hn
  obtain ⟨i0, i1, i2, i3, i4⟩ := infoStrZ
  have I1 := Lib.hid i1
  have I2 := Lib.hid i2
  have I3 := Lib.hid i3
  have I4 := Lib.hid i4
  clear hcell h0 hxs hpl hps hpd hpe hnz hz hcl hn i1 i2 i3 i4
  go_enter Tryd.func80, Tryd.ntmps80
  go_wp2_with (at_make; refine wpList_make_own _ rfl _ _ 30 rfl w.heap.size 9 i0 (.string ⟨#[]⟩) 1 Tryd.underlying30 I1.out I2.out I3.out .i64 .i64 _ 8 rfl rfl ?c0 ?c1 ?c2 ?c3 ?_)
  case c0 => rfl
  case c1 => rw [I4.out]; omega
  case c2 => unfold maxLen; omega
  case c3 => exact Nat.le_refl _
  intro w1 ho1 hg1
  have hb1 : Below w.heap.size w w1 := (Below.refl _ _).grown hg1 (Nat.le_refl _) (fun k e => by cases e)
  have ho1' : OwnS w.heap.size w1 (.slice (some ⟨w.heap.size, 0, none⟩) 0 8) [] := ho1
  have HO1 := Lib.hid ho1'
  have HB1 := Lib.hid hb1
  clear ho1 ho1' hg1 hb1
  go_wp2_with (at_builtin; refine wpList_appendTs rfl _ _ 30 rfl w.heap.size Tryd.underlying30 infoStr _ [] rfl HO1.out ⟨bk, o, none⟩ n c xs rfl ?c4 ?c5 ?c6 ?c7 ?_)
  case c4 => exact HLN.out
  case c5 =>
    intro j x hx
    have ea : (⟨bk, o, none⟩ : Addr).add j = ⟨bk, o + j, none⟩ := by unfold Addr.add; split <;> simp_all
    rw [ea]
    exact (HB1.out.cell (p := ⟨bk, o + j, none⟩) hbk).trans (HCL.out j x hx)
  case c6 => simp; omega
  case c7 => exact HB1.out.size
  intro v2 w2 ho2 hg2 _
  have hb2 : Below w.heap.size w w2 := HB1.out.grown hg2 HB1.out.size (fun r e => (HO1.out.lt r e).1)
  have HO2 := Lib.hid ho2
  have HB2 := Lib.hid hb2
  clear ho2 hg2 hb2 HO1 HB1
  go_wp2_with fail
  go_loopw [7] (fun v wr => ∃ k : Nat, n + k ≤ 8 ∧ Aside (OwnS w.heap.size wr v (xs ++ List.replicate k z)) ∧ Aside (Below w.heap.size w wr)) (fun v _ => 8 - (match v with | .slice _ l _ => l | _ => 0))
  case atStart => exact ⟨0, by omega, (by rw [List.replicate_zero, List.append_nil]; exact HO2.out), HB2.out⟩
  case round =>
    clear HO2 HB2
    obtain ⟨k, hk, HO, HB⟩ := hrel
    have ho := HO.out
    obtain ⟨pv, cv, hv⟩ := ho.form
    have hll : (xs ++ List.replicate k z).length = n + k := by rw [List.length_append, List.length_replicate, HLN.out]
    rw [hll] at hv
    have hn1 : xs ++ List.replicate (k + 1) z = (xs ++ List.replicate k z) ++ [z] := by rw [List.replicate_succ', List.append_assoc]
    obtain ⟨L, hL⟩ : ∃ L, xs ++ List.replicate k z = L := ⟨_, rfl⟩
    rw [hL] at ho hll hn1
    obtain ⟨q, hq⟩ : ∃ q, n + k = q := ⟨_, rfl⟩
    rw [hq] at hv hk hll
    subst hv
    have HO' := Lib.hid ho
    have HLL := Lib.hid hll
    have HN1 := Lib.hid hn1
    have HQ := Lib.hid hq
    have HLX := Lib.hid hL
    clear ho hll hn1 hL hq HO
    by_cases hlt : q < 8
    · have g1 : decide ((q : Int) < 8) = true := by simp; omega
      go_wp2_with fail
      refine (HNZ.out _).mono ?_
      rintro e w3 ⟨rfl, hb3⟩
      have HO3 := Lib.hid (HO'.out.after hb3)
      have HB3 := Lib.hid (HB.out.trans (hb3.mono HB.out.size))
      clear hb3 HO' HB
      go_wp2_with (at_builtin; refine wpList_appendT rfl _ _ 30 rfl w.heap.size Tryd.underlying30 infoStr _ L rfl (HO3.out.alloc _) ⟨w3.heap.size, 0, none⟩ 1 z rfl ?d0 ?d1 ?d2 ?_)
      case d0 => exact cells_new_at rfl [.string z] 9 0 _ rfl
      case d1 => rw [HLL.out]; omega
      case d2 => have := HB3.out.size; simp; omega
      intro v4 w4 ho4 hg4
      have hb4 : Below w.heap.size w w4 := (HB3.out.alloc HB3.out.size _).grown hg4 (by have := HB3.out.size; simp; omega) (fun r e => (HO3.out.lt r e).1)
      obtain ⟨p4, c4, hv4⟩ := ho4.form
      rw [List.length_append, HLL.out, List.length_singleton] at hv4
      rw [← HN1.out] at ho4
      subst hv4
      have HO4 := Lib.hid ho4
      have HB4 := Lib.hid hb4
      clear ho4 hg4 hb4 HO3 HB3
      go_wp2
      go_roundw
      case rel => exact ⟨k + 1, (by have := HQ.out; omega), HO4.out, HB4.out⟩
      case measure => simp; omega
    · obtain rfl : q = 8 := by omega
      have ho := HO'.out
      rw [← HLX.out, show k = 8 - n from by have := HQ.out; omega, ← HPD.out] at ho
      have HO5 := Lib.hid ho
      obtain ⟨w5, hw5⟩ : ∃ w5, wr = w5 := ⟨_, rfl⟩
      rw [hw5] at HO5 HB ⊢
      clear ho HO' hw5 wr HLL HN1 HLX HQ hlt hk L
      go_wp2_with fail
      go_loopw [7, 8] (fun v i wr => ∃ u : Nat, u ≤ up ∧ i = .int .i64 u ∧ Aside (OwnS w.heap.size wr v (lvlB pl u)) ∧ Aside (Below w.heap.size w wr)) (fun _ i _ => up - (RowKit.intOf i).toNat)
      case atStart => exact ⟨0, Nat.zero_le _, rfl, HO5.out, HB.out⟩
      case round =>
        clear HO5 HB
        obtain ⟨u, hu, rfl, HO, HB⟩ := hrel
        obtain ⟨w6, hw6⟩ : ∃ w6, wr = w6 := ⟨_, rfl⟩
        rw [hw6] at HO HB ⊢
        clear hw6 wr
        by_cases hlu : u < up
        · obtain ⟨hev, hle⟩ := lvlB_even pl 3 u HPL.out (by omega)
          have hms := lvlB_mem pl 1048576 (by omega) HPS.out u
          have ho := HO.out
          have hsucc : lvlB pl (u + 1) = halfs (lvlB pl u) := rfl
          obtain ⟨L, hL⟩ : ∃ L, lvlB pl u = L := ⟨_, rfl⟩
          rw [hL] at hev hle hms ho hsucc
          have hle' : L.length ≤ 16 := Nat.le_trans hle (by omega)
          obtain ⟨m, hm⟩ : ∃ m, L.length / 2 = m := ⟨_, rfl⟩
          have hm2 : L.length = 2 * m := by omega
          obtain ⟨pv, cv, hv⟩ := ho.form
          obtain ⟨q, hq⟩ : ∃ q, L.length = q := ⟨_, rfl⟩
          rw [hq] at hm2 hle' hv
          subst hv
          have HO7 := Lib.hid ho
          have HMS := Lib.hid hms
          have HSU := Lib.hid hsucc
          have HQ := Lib.hid hq
          have HM := Lib.hid hm2
          clear ho hms hsucc hq hev hle hL hm hm2 HO
          go_wp2_with fail
          go_loopw [9, 10] (fun v i wr => ∃ j : Nat, j ≤ m ∧ i = .int .i64 ((2 * j : Nat) : Int) ∧ Aside (OwnS w6.heap.size wr v ((halfs L).take j)) ∧ Aside (Below w6.heap.size w6 wr)) (fun _ i _ => q - (RowKit.intOf i).toNat)
          case atStart => exact ⟨0, Nat.zero_le _, rfl, OwnS.nil _ _, Below.refl _ _⟩
          case round =>
            obtain ⟨j, hj, rfl, HN, HBj⟩ := hrel
            by_cases hlj : j < m
            · obtain ⟨x, hx⟩ : ∃ x, L[2 * j]? = some x := ⟨_, List.getElem?_eq_getElem (by have := HQ.out; have := HM.out; omega)⟩
              obtain ⟨y, hy⟩ : ∃ y, L[2 * j + 1]? = some y := ⟨_, List.getElem?_eq_getElem (by have := HQ.out; have := HM.out; omega)⟩
              have hts := halfs_take L j x y (by have := HQ.out; have := HM.out; omega) hx hy
              obtain ⟨g, cg, hvg, hg0, hg1, hgc, -⟩ := HO7.out.opened (by have := HQ.out; have := HM.out; omega)
              rw [HQ.out] at hvg
              cases hvg
              have hxs := HMS.out x (List.mem_of_getElem? hx)
              have hys := HMS.out y (List.mem_of_getElem? hy)
              have hxy : (x ++ y).size ≤ 1099511627776 := by rw [ByteArray.size_append]; omega
              have g9 : ¬ 9223372036854775807 < x.size + y.size := by omega
              have hsum := fun W => rsum_shaB (x ++ y) W hxy
              obtain ⟨sm, hsm⟩ : ∃ sm, shaB (x ++ y) = sm := ⟨_, rfl⟩
              rw [hsm] at hsum hts
              have hnl : ((halfs L).take j).length = j := by rw [List.length_take, halfs_length]; have := HQ.out; have := HM.out; omega
              obtain ⟨N, hN'⟩ : ∃ N, (halfs L).take j = N := ⟨_, rfl⟩
              have hn := HN.out
              rw [hN'] at hts hnl hn
              obtain ⟨pn, cn, hvn⟩ := hn.form
              rw [hnl] at hvn
              subst hvn
              obtain ⟨t, ht⟩ : ∃ t, 2 * j = t := ⟨_, rfl⟩
              have htq : t + 1 < q := by have := HM.out; omega
              rw [ht] at hx hy ⊢
              have hS : ∀ W', Below w6.heap.size w6 W' → W'.cell? ⟨g, t, none⟩ = some (.string x) ∧ W'.cell? ⟨g, t + 1, none⟩ = some (.string y) := fun W' hb =>
                ⟨(hb.cell (p := ⟨g, t, none⟩) hg1).trans (hgc _ _ hx), (hb.cell (p := ⟨g, t + 1, none⟩) hg1).trans (hgc _ _ hy)⟩
              have HS := Lib.hid hS
              have HSUM := Lib.hid hsum
              have HTS := Lib.hid hts
              have HNL := Lib.hid hnl
              have HN1 := Lib.hid hn
              have HT := Lib.hid ht
              have g1 : (0 : Int) ≤ t := by omega
              have g2 : (t : Int) < q := by omega
              have g3 : IntKind.i64.wrap ((t : Int) + 1) = (t : Int) + 1 := IntWalk.i64_in _ (by omega)
              have g4 : (0 : Int) ≤ (t : Int) + 1 := by omega
              have g5 : (t : Int) + 1 < q := by omega
              have g6 : ((t : Int) + 1).toNat = t + 1 := by omega
              have g7 : IntKind.i64.wrap ((t : Int) + 2) = (t : Int) + 2 := IntWalk.i64_in _ (by omega)
              clear hS hsum hts hnl hn hN' hsm hxy hxs hys hx hy hgc HN ht
              go_wp2_with fail
              have b0 : Below w6.heap.size w6 wr.drew := HBj.out.drew
              have b0' : Below wr.heap.size wr wr.drew := (Below.refl _ _).drew
              refine wp_region_held_drew (S := (fun W => W.cell? ⟨g, t, none⟩ = some (.string x) ∧ W.cell? ⟨g, t + 1, none⟩ = some (.string y))) (by kernel_rfl) (HS.out _ b0) (fun hHeld => ?_)
              refine wpAnyH_take (i := 0) (v := ?_) rfl (by kernel_rfl) (by kernel_rfl) (by kernel_rfl) (fun _ _ _ h => h) (.inl ⟨by rfl, ?_⟩) (by assumption) ?_
              rotate_left 1
              · intro w0 hSw
                go_simp <;> with_reducible rfl
              try simp only [Act.put, List.getElem_toArray, List.getElem_cons_zero, List.setIfInBounds_toArray, List.set_cons_zero, List.set_cons_succ]
              refine wpAnyH_take (i := 1) (v := ?_) rfl (by kernel_rfl) (by kernel_rfl) (by kernel_rfl) (fun _ _ _ h => h) (.inl ⟨by rfl, ?_⟩) (by assumption) ?_
              rotate_left 1
              · intro w0 hSw
                go_simp <;> with_reducible rfl
              try simp only [Act.put, List.getElem_toArray, List.getElem_cons_zero, List.getElem_cons_succ, List.setIfInBounds_toArray, List.set_cons_zero, List.set_cons_succ]
              refine wpAnyH_take (i := 2) (v := ?_) rfl (by kernel_rfl) (by kernel_rfl) (by kernel_rfl) (fun _ _ _ h => h) (.inl ⟨by rfl, ?_⟩) (by assumption) ?_
              rotate_left 1
              · intro w0 hSw
                go_simp <;> with_reducible rfl
              try simp only [Act.put, List.getElem_toArray, List.getElem_cons_zero, List.getElem_cons_succ, List.setIfInBounds_toArray, List.set_cons_zero, List.set_cons_succ]
              refine wpAnyH_take (i := 3) (v := ?_) rfl (by kernel_rfl) (by kernel_rfl) (by kernel_rfl) (fun _ _ _ h => h) (.inl ⟨by rfl, ?_⟩) (by assumption) ?_
              rotate_left 1
              · intro w0 hSw
                go_simp <;> with_reducible rfl
              try simp only [Act.put, List.getElem_toArray, List.getElem_cons_zero, List.getElem_cons_succ, List.setIfInBounds_toArray, List.set_cons_zero, List.set_cons_succ]
              refine wpAnyH_take (i := 4) (v := ?_) rfl (by kernel_rfl) (by kernel_rfl) (by kernel_rfl) (fun _ _ _ h => h) (.inl ⟨by rfl, ?_⟩) (by assumption) ?_
              rotate_left 1
              · intro w0 hSw
                obtain ⟨z0, z1⟩ := hSw
                go_simp <;> with_reducible rfl
              try simp only [Act.put, List.getElem_toArray, List.getElem_cons_zero, List.getElem_cons_succ, List.setIfInBounds_toArray, List.set_cons_zero, List.set_cons_succ]
              refine wpAnyH_take (i := 5) (v := ?_) rfl (by kernel_rfl) (by kernel_rfl) (by kernel_rfl) (fun _ _ _ h => h) (.inl ⟨by rfl, ?_⟩) (by assumption) ?_
              rotate_left 1
              · intro w0 hSw
                go_simp <;> with_reducible rfl
              try simp only [Act.put, List.getElem_toArray, List.getElem_cons_zero, List.getElem_cons_succ, List.setIfInBounds_toArray, List.set_cons_zero, List.set_cons_succ]
              refine wpAnyH_take (i := 6) (v := ?_) rfl (by kernel_rfl) (by kernel_rfl) (by kernel_rfl) (fun _ _ _ h => h) (.inl ⟨by rfl, ?_⟩) (by assumption) ?_
              rotate_left 1
              · intro w0 hSw
                go_simp <;> with_reducible rfl
              try simp only [Act.put, List.getElem_toArray, List.getElem_cons_zero, List.getElem_cons_succ, List.setIfInBounds_toArray, List.set_cons_zero, List.set_cons_succ]
              refine wpAnyH_take (i := 7) (v := ?_) rfl (by kernel_rfl) (by kernel_rfl) (by kernel_rfl) (fun _ _ _ h => h) (.inl ⟨by rfl, ?_⟩) (by assumption) ?_
              rotate_left 1
              · intro w0 hSw
                go_simp <;> with_reducible rfl
              try simp only [Act.put, List.getElem_toArray, List.getElem_cons_zero, List.getElem_cons_succ, List.setIfInBounds_toArray, List.set_cons_zero, List.set_cons_succ]
              refine wpAnyH_take (i := 8) (v := ?_) rfl (by kernel_rfl) (by kernel_rfl) (by kernel_rfl) (fun _ _ _ h => h) (.inl ⟨by rfl, ?_⟩) (by assumption) ?_
              rotate_left 1
              · intro w0 hSw
                go_simp <;> with_reducible rfl
              try simp only [Act.put, List.getElem_toArray, List.getElem_cons_zero, List.getElem_cons_succ, List.setIfInBounds_toArray, List.set_cons_zero, List.set_cons_succ]
              refine wpAnyH_take (i := 9) (v := ?_) rfl (by kernel_rfl) (by kernel_rfl) (by kernel_rfl) (fun _ _ _ h => h) (.inl ⟨by rfl, ?_⟩) (by assumption) ?_
              rotate_left 1
              · intro w0 hSw
                obtain ⟨z0, z1⟩ := hSw
                go_simp <;> with_reducible rfl
              try simp only [Act.put, List.getElem_toArray, List.getElem_cons_zero, List.getElem_cons_succ, List.setIfInBounds_toArray, List.set_cons_zero, List.set_cons_succ]
              refine wpAnyH_take (i := 10) (v := ?_) rfl (by kernel_rfl) (by kernel_rfl) (by kernel_rfl) (fun _ _ _ h => h) (.inl ⟨by rfl, ?_⟩) (by assumption) ?_
              rotate_left 1
              · intro w0 hSw
                go_simp <;> with_reducible rfl
              try simp only [Act.put, List.getElem_toArray, List.getElem_cons_zero, List.getElem_cons_succ, List.setIfInBounds_toArray, List.set_cons_zero, List.set_cons_succ]
              refine wpAnyH_ready (rs := [11]) (by kernel_rfl) (by simp) ?_
              refine AllReadyH.cons rfl (fun K hK => ?_) AllReadyH.nil
              go_simp
              go_at_call 36
              refine (HSUM.out _).mono ?_
              rintro e w7 ⟨rfl, hb7⟩
              have b1 : Below w6.heap.size w6 w7 := b0.trans (hb7.mono b0.size)
              have HO8 := Lib.hid (HN1.out.after (b0'.trans hb7))
              have hz7 : w6.heap.size ≤ w7.heap.size := b1.size
              clear hb7
              refine hK.out _ _ (HS.out _ b1) (fun hHeld => ?_)
              clear hK K
              try simp only [Act.put, List.getElem_toArray, List.getElem_cons_zero, List.getElem_cons_succ, List.setIfInBounds_toArray, List.set_cons_zero, List.set_cons_succ]
              refine wpAnyH_ready (rs := [12]) (by kernel_rfl) (by simp) ?_
              refine AllReadyH.cons rfl (fun K hK => ?_) AllReadyH.nil
              go_simp
              have b2 : Below w6.heap.size w6 (w7.alloc (.cells #[.string sm] 9)) := b1.alloc hz7 _
              refine hK.out _ _ (HS.out _ b2) (fun hHeld => ?_)
              clear hK K
              try simp only [Act.put, List.getElem_toArray, List.getElem_cons_zero, List.getElem_cons_succ, List.setIfInBounds_toArray, List.set_cons_zero, List.set_cons_succ]
              refine wpAnyH_ready (rs := [13]) (by kernel_rfl) (by simp) ?_
              refine AllReadyH.cons rfl (fun K hK => ?_) AllReadyH.nil
              refine step_appendTs (by rfl) _ _ 30 rfl w6.heap.size Tryd.underlying30 infoStr _ N rfl (HO8.out.alloc _) ⟨w7.heap.size, 0, none⟩ 1 1 [sm] rfl rfl ?e0 ?e1 ?e2 ?_
              case e0 => exact fun j' x' h => one_at h (fun e1 e2 => by subst e1; subst e2; exact cells_new_at rfl [.string sm] 9 0 _ rfl)
              case e1 => rw [HNL.out]; have := HM.out; omega
              case e2 => simp; omega
              intro v9 w9 ho9 hg9 _
              have b4 : Below w6.heap.size w6 w9 := b2.grown hg9 (by simp; omega) (fun r e => (HO8.out.lt r e).1)
              rw [← HTS.out] at ho9
              have HO9 := Lib.hid ho9
              clear ho9 hg9 b0 b1 b2
              refine hK.out _ _ (HS.out _ b4) (fun hHeld => ?_)
              clear hK K
              try simp only [Act.put, List.getElem_toArray, List.getElem_cons_zero, List.getElem_cons_succ, List.setIfInBounds_toArray, List.set_cons_zero, List.set_cons_succ]
              refine wpAnyH_take (i := 14) (v := ?_) rfl (by kernel_rfl) (by kernel_rfl) (by kernel_rfl) (fun _ _ _ h => h) (.inl ⟨by rfl, ?_⟩) (by assumption) ?_
              rotate_left 1
              · intro w0 hSw
                go_simp <;> with_reducible rfl
              try simp only [Act.put, List.getElem_toArray, List.getElem_cons_zero, List.getElem_cons_succ, List.setIfInBounds_toArray, List.set_cons_zero, List.set_cons_succ]
              refine wpAnyH_done (by kernel_rfl) ?_ 0
              go_wp2
              go_roundw
              case rel => exact ⟨j + 1, by omega, (by have := HT.out; rw [show 2 * (j + 1) = t + 2 from by omega]; go_num), HO9.out, b4⟩
              case measure => simp [RowKit.intOf]; omega
            · obtain rfl : j = m := by omega
              have hn := HN.out
              rw [List.take_of_length_le (by rw [halfs_length, HQ.out]; have := HM.out; omega), ← HSU.out] at hn
              have HO8 := Lib.hid (hn.base HB.out.size)
              have HB8 := Lib.hid (HB.out.trans (HBj.out.mono HB.out.size))
              have hM := HM.out
              clear hn HN HBj
              rw [← hM]
              go_wp2
              go_roundw
              case rel => exact ⟨u + 1, by omega, by go_num, HO8.out, HB8.out⟩
              case measure => simp [RowKit.intOf]; omega
        · obtain rfl : u = up := by omega
          go_wp2
          go_ret
          exact ⟨_, rfl, HO.out, HB.out⟩
end Go.Proofs.YtfbopnebfdkhdaaDoor
