/- General laws that stand in other texts. -/
import Derived.Test.YtpfmdhcmhcoddaaGreatDoorHedE
import Derived.Test.YtpfmdhcmhcoddaaGreatDoorKitC
import Derived.Lib.AppendStr
namespace Go.Proofs.YtpfmdhcmhcoddaaGreatDoor
open Go.RowKit Go.Shelf Go.Lib
attribute [local go_sem] Oper.semAt_some

/-- a text's sum -/
def shaB (s : ByteArray) : ByteArray := ⟨(shaOf s.data.toList).toArray⟩
theorem toList_append (a b : ByteArray) : (a ++ b).data.toList = a.data.toList ++ b.data.toList := by
  rw [ByteArray.data_append]; simp
theorem noughtB_size : noughtB.size = 32 := by simp [noughtB, ByteArray.size]
/-- a walk that stands still here -/
def Halt (p : Prop) : Prop := p
theorem Halt.mk {p : Prop} (h : p) : Halt p := h
theorem infoU8 : (Tryz.prog.info? 5).map (fun i => (i.zero, i.size, i.bytes)) = some (some (.int .u8 0), 1, 1) := by kernel_rfl
theorem wpList_haltConv {P : Program} {ops : Array Oper} {rest : List Oper} {op : Oper} {a : Act} {w : World} {Q : Exit → Act → World → Prop} (src dst : TypeId) (x : Operand) (_ho : op.op = .convert src dst x)
    (h : Halt (wpList P ops Q (op :: rest) a w)) : wpList P ops Q (op :: rest) a w := h
theorem append_place {P : Program} (w : World) (base : Nat) (t ty e : TypeId) (i : TypeInfo) (z : Value) (bytes : Nat) (ht : P.underlying t = some (.slice e)) (hi : P.info? e = some i) (hz : i.zero = some z)
    (hsize : i.size = 1) (hby : i.bytes = bytes) (hzs : z.cells.size = 1)
    (v : Value) (n : Nat) (xs : List Value) (hown : w.ownsRow base e 1 v n xs)
    (a : Addr) (m c : Nat) (news : List Value) (hl : news.length = m * 1) (hnews : ∀ j u, news[j]? = some u → w.cell? (a.add j) = some u) (h1 : ∀ u ∈ news, u.oneCell' = true)
    (h63 : n + m ≤ maxLen) (hbytes : (n + m) * bytes ≤ 140737488355328) (v' : Value) (w' : World) (hrun : (Builtin.append_ #[t, t] ty #[v, .slice (some a) m c]).run P w = .ok v' w') :
    v'.ownBlock = v.ownBlock ∨ ∀ k, v'.ownBlock = some k → w.heap.size ≤ k := by
  have hsmall : n + m ≤ 9223372036854775807 := by simp only [maxLen] at h63; omega
  subst hby
  rcases hown.2 with ⟨rfl, rfl⟩ | ⟨g, cap, cur, rfl, hbg, hg, hnc, hcm, hcs, htake⟩
  · have hx : xs = [] := List.eq_nil_of_length_eq_zero (by simpa using hown.1)
    subst hx
    obtain ⟨v1, w1, hr, h2, _⟩ := run_append_own (P := P) w w.heap.size t ty e i z 1 i.bytes ht hi hz hsize rfl hzs (by decide) _ _ _ (World.ownsRow_nil w w.heap.size e 1) a m c news hl hnews h1 h63 hbytes (Nat.le_refl _)
    rw [hr] at hrun
    cases hrun
    exact .inr fun k hk => (World.ownsRow.lt h2 k hk).1
  · by_cases hroom : n + m ≤ cap
    · have hr := run_append_room (P := P) w t ty e i ht hi g n cap cur hg a m c news (by rw [hsize]; exact hl) hnews h1 hroom (by rw [hsize, hl, hcs, ← Nat.add_mul]; exact Nat.mul_le_mul_right _ hroom)
      rw [hr] at hrun
      cases hrun
      exact .inl rfl
    · have holds : ∀ j u, xs[j]? = some u → w.cell? ((⟨g, 0, none⟩ : Addr).add j) = some u := hown.cells (g := g) rfl
      have hr := run_append_grow (P := P) w t ty e i z ht hi hz ⟨g, 0, none⟩ n cap xs (by rw [hsize]; exact hown.1) holds a m c news (by rw [hsize]; exact hl) hnews (by omega) (by omega) (growslice_fits (by omega) hbytes)
      rw [hr] at hrun
      cases hrun
      exact .inr fun k hk => by cases hk; exact Nat.le_refl _
theorem run_appendTs {P : Program} (base : Nat) (w : World) (t ty : TypeId) (ht : P.underlying t = some (.slice 9)) (hi : (P.info? 9).map (fun i => (i.zero, i.size, i.bytes)) = some (some (.string ⟨#[]⟩), 1, 16))
    (v : Value) (l : List ByteArray) (hown : OwnS base w v l)
    (ad : Addr) (m c : Nat) (news : List ByteArray) (hl : news.length = m) (hnews : ∀ (j : Nat) x, news[j]? = some x → w.cell? (ad.add j) = some (.string x))
    (h63 : l.length + m ≤ 1099511627776) (hbase : base ≤ w.heap.size) :
    ∃ v' w', (Builtin.append_ #[t, t] ty #[v, .slice (some ad) m c]).run P w = .ok v' w' ∧ OwnS base w' v' (l ++ news) ∧ w.grownBy w' v.ownBlock ∧ (v'.ownBlock = v.ownBlock ∨ ∀ k, v'.ownBlock = some k → w.heap.size ≤ k) := by
  obtain ⟨i0, hi0, hz0, hz1, hz2⟩ := info_parts hi
  have hpl := append_place w base t ty 9 i0 (.string ⟨#[]⟩) 16 ht hi0 hz0 hz1 hz2 rfl v l.length (l.map Value.string) hown ad m c (news.map Value.string) (by simp [hl]) (fun j u hu => by
    rw [List.getElem?_map] at hu
    cases hx : news[j]? with
    | none => rw [hx] at hu; cases hu
    | some x => rw [hx] at hu; cases hu; exact hnews j x hx) (by
    intro u hu
    obtain ⟨x, _, rfl⟩ := List.mem_map.1 hu
    rfl) (by unfold maxLen; omega) (by omega)
  obtain ⟨v', w', h1, h2, h3, _⟩ := run_append_own (P := P) w base t ty 9 i0 (.string ⟨#[]⟩) 1 16 ht hi0 hz0 hz1 hz2 rfl (by decide) v l.length (l.map Value.string) hown ad m c (news.map Value.string) (by simp [hl]) (fun j u hu => by
    rw [List.getElem?_map] at hu
    cases hx : news[j]? with
    | none => rw [hx] at hu; cases hu
    | some x => rw [hx] at hu; cases hu; exact hnews j x hx) (by
    intro u hu
    obtain ⟨x, _, rfl⟩ := List.mem_map.1 hu
    rfl) (by unfold maxLen; omega) (by omega) hbase
  refine ⟨v', w', h1, ?_, h3, hpl v' w' h1⟩
  unfold OwnS
  rw [List.map_append, List.length_append, hl]
  exact h2
/-- 'append(l, more..)' onto a row of texts -/
theorem wpList_appendTs {P : Program} {ops : Array Oper} {rest : List Oper} {o : Oper} {a : Act} {w : World} {Q : Exit → Act → World → Prop} (hgd : o.guard = none) (s x : Operand) (t : TypeId)
    (ho : o.op = .call { callee := .builtin .append, args := #[s, x], argTypes := #[t, t] })
    (base : Nat) (ht : P.underlying t = some (.slice 9)) (hi : (P.info? 9).map (fun i => (i.zero, i.size, i.bytes)) = some (some (.string ⟨#[]⟩), 1, 16))
    (v : Value) (l : List ByteArray) (hs : a.eval s = v) (hown : OwnS base w v l)
    (ad : Addr) (m c : Nat) (news : List ByteArray) (hx : a.eval x = .slice (some ad) m c) (hl : news.length = m) (hnews : ∀ (j : Nat) x, news[j]? = some x → w.cell? (ad.add j) = some (.string x))
    (h63 : l.length + m ≤ 1099511627776) (hbase : base ≤ w.heap.size)
    (h : ∀ v' w', OwnS base w' v' (l ++ news) → w.grownBy w' v.ownBlock → (v'.ownBlock = v.ownBlock ∨ ∀ k, v'.ownBlock = some k → w.heap.size ≤ k) → wpList P ops Q rest (a.put o.dst v') w') : wpList P ops Q (o :: rest) a w := by
  obtain ⟨v', w', hr, h2, h3, h4⟩ := run_appendTs (P := P) base w t o.type ht hi v l hown ad m c news hl hnews h63 hbase
  refine wpList_plain hgd fun K hK => ?_
  unfold Oper.wp execOp
  simp only [ho, resolve, invoke, builtin, Sem.run_bind, Sem.run_pure, Result.andThen_ok, List.map_toArray, List.map_cons, List.map_nil, hs, hx, hr]
  exact hK _ _ (h v' w' h2 h3 h4)
theorem strs_new (w : World) (xs : List ByteArray) (n : Nat) (h : xs.length = n) : Strs (w.alloc (.cells (xs.map Value.string).toArray 9)) (.slice (some ⟨w.heap.size, 0, none⟩) n n) xs := by
  subst h
  refine ⟨_, _, rfl, Nat.le_refl _, .inr ⟨w.heap.size, 0, rfl, by simp, fun j x hx => ?_⟩⟩
  rw [World.cell?_alloc_mark]
  simp [hx]
end Go.Proofs.YtpfmdhcmhcoddaaGreatDoor
/- Contracts of ssz.Pack and pharosref08.Pack for a text of five. -/
namespace Go.Proofs.YtpfmdhcmhcoddaaGreatDoor
open Go.RowKit Go.Shelf Go.Lib
attribute [local go_sem] Oper.semAt_some

/-- a text of five as a chunk -/
def pack5 (s : ByteArray) : ByteArray := s ++ ⟨(List.replicate 27 0).toArray⟩
theorem pack5_size {s : ByteArray} (h : s.size = 5) : (pack5 s).size = 32 := by
  unfold pack5
  rw [ByteArray.size_append, h]; simp [ByteArray.size]
theorem run_appendStr_grow {P : Program} (w : World) (t u ty e : TypeId) (ht : P.underlying t = some (.slice e)) (hu : P.underlying u = some .string) (hi : (P.info? e).map (fun i => (i.zero, i.size, i.bytes)) = some (some (.int .u8 0), 1, 1))
    (g n : Nat) (l : List UInt8) (hl : l.length = n) (hc : ∀ j x, (Lib.byteCells l)[j]? = some x → w.cell? ⟨g, j, none⟩ = some x) (s : ByteArray) (h0 : 0 < s.size) (hsm : n + s.size ≤ 1099511627776) :
    ∃ v' w', (Builtin.append_ #[t, u] ty #[.slice (some ⟨g, 0, none⟩) n n, .string s]).run P w = .ok v' w' ∧ OwnC w.heap.size w' v' (l ++ s.data.toList) ∧ w.grownBy w' none := by
  obtain ⟨i0, hi0, hz0, hz1, hz2⟩ := info_parts hi
  have hbl := Lib.byteCells_length l
  have hr := run_append_grow_string (P := P) w t u ty e i0 (.int .u8 0) ht hu hi0 hz0 ⟨g, 0, none⟩ n n (Lib.byteCells l) (by rw [hz1]; omega) (fun j x hx => by rw [addr_add]; exact hc j x hx) s (by omega) (by omega) (growslice_fits (by omega) (by rw [hz2]; omega))
  have hss : s.data.toList.length = s.size := rfl
  have hge := grownCap_ge w (n + s.size) n e
  refine ⟨_, _, hr, .inr ⟨w.heap.size, _, by rw [List.length_append, hl, hss], Nat.le_refl _, by simp, by rw [List.length_append, hl, hss]; exact hge, fun j x hx => ?_, fun j hj => ?_⟩, ⟨rfl, rfl, rfl, by simp, fun k hk _ => Below.heap_alloc w.drew _ k hk⟩⟩
  · have hlt := (List.getElem?_eq_some_iff.1 hx).1
    rw [Lib.byteCells_length, List.length_append, hl, hss] at hlt
    rw [show w.heap.size = w.drew.heap.size from rfl, World.cell?_alloc_mark]
    rw [Lib.byteCells_append] at hx
    have e1 : (Lib.byteCells l ++ Lib.byteCells s.data.toList).length = n + s.size := by rw [List.length_append, Lib.byteCells_length, Lib.byteCells_length, hl, hss]
    rw [Array.getElem?_append_left (by simp [strCells_length, hbl]; omega)]
    simpa [strCells, Lib.byteCells] using hx
  · constructor
    · rw [show w.heap.size = w.drew.heap.size from rfl, World.cell?_alloc_mark]
      rw [Array.getElem?_eq_getElem (by simp [Builtin.zeroCells, strCells_length, hbl, Value.cells]; omega)]
      rfl
    · rw [World.frozen?, show w.heap.size = w.drew.heap.size from rfl, World.alloc_heap_new]
      simp
theorem wpList_appendStr {P : Program} {ops : Array Oper} {rest : List Oper} {o : Oper} {a : Act} {w : World} {Q : Exit → Act → World → Prop} (hgd : o.guard = none) (sl x : Operand) (t u : TypeId)
    (ho : o.op = .call { callee := .builtin .append, args := #[sl, x], argTypes := #[t, u] })
    (e : TypeId) (ht : P.underlying t = some (.slice e)) (hu : P.underlying u = some .string) (hi : (P.info? e).map (fun i => (i.zero, i.size, i.bytes)) = some (some (.int .u8 0), 1, 1))
    (g n : Nat) (l : List UInt8) (hs : a.eval sl = .slice (some ⟨g, 0, none⟩) n n) (hl : l.length = n) (hc : ∀ j x, (Lib.byteCells l)[j]? = some x → w.cell? ⟨g, j, none⟩ = some x) (s : ByteArray) (hx : a.eval x = .string s) (h0 : 0 < s.size) (hsm : n + s.size ≤ 1099511627776)
    (h : ∀ v' w', OwnC w.heap.size w' v' (l ++ s.data.toList) → w.grownBy w' none → wpList P ops Q rest (a.put o.dst v') w') : wpList P ops Q (o :: rest) a w := by
  obtain ⟨v', w', hr, h2, h3⟩ := run_appendStr_grow (P := P) w t u o.type e ht hu hi g n l hl hc s h0 hsm
  refine wpList_plain hgd fun K hK => ?_
  unfold Oper.wp execOp
  simp only [ho, resolve, invoke, builtin, Sem.run_bind, Sem.run_pure, Result.andThen_ok, List.map_toArray, List.map_cons, List.map_nil, hs, hx, hr]
  exact hK _ _ (h v' w' h2 h3)
theorem nought27 : noughtB.extract 5 32 = ⟨(List.replicate 27 0).toArray⟩ := by kernel_rfl
theorem pack5_list (s : ByteArray) : (⟨(s.data.toList ++ (noughtB.extract 5 32).data.toList).toArray⟩ : ByteArray) = pack5 s := by
  rw [nought27]
  unfold pack5
  refine ByteArray.ext ?_
  rw [ByteArray.data_append]
  simp
set_option maxRecDepth 100000 in
set_option maxHeartbeats 3200000 in
theorem pack5_any (s : ByteArray) (w : World) (hs : s.size = 5) :
    Calls Tryz.prog 114 #[.string s] w fun e w' => ∃ v', e = .returned v' ∧ OwnS w.heap.size w' v' [pack5 s] ∧ Below w.heap.size w w' := by
  have hlen : s.data.toList.length = 5 := hs
  have hpk := pack5_list s
  have hnz := fun W => nought_any W
  have h27 : (noughtB.extract 5 32).size = 27 := by kernel_rfl
  have hns := noughtB_size
  obtain ⟨z, hz⟩ : ∃ z, noughtB = z := ⟨_, rfl⟩
  rw [hz] at hpk hnz h27 hns
  obtain ⟨q, hq⟩ : ∃ q, z.extract 5 32 = q := ⟨_, rfl⟩
  rw [hq] at hpk h27
  obtain ⟨R, hR⟩ : ∃ R, pack5 s = R := ⟨_, rfl⟩
  rw [hR] at hpk ⊢
  have HPK := Lib.hid hpk
  have HNZ := Lib.hid hnz
  have HL := Lib.hid hlen
  clear hpk hnz hlen hz hR hs
  go_enter Tryz.func114, Tryz.ntmps114
  go_wp2_with (with_reducible refine wpList_haltConv 9 167 _ rfl ?_)
  refine Halt.mk ?_
  refine wpList_bytesOf rfl 9 167 _ rfl 5 Tryz.underlying9 Tryz.underlying167 Tryz.underlying5 s rfl ?_
  intro v1 w1 ho1 hg1
  have hb1 : Below w.heap.size w w1 := (Below.refl _ _).grown hg1 (Nat.le_refl _) (fun r e => by cases e)
  obtain ⟨g, c1, hv1, hg0, hg2, hcap, hcl⟩ : ∃ g c1, v1 = .slice (some ⟨g, 0, none⟩) 5 c1 ∧ w.heap.size ≤ g ∧ g < w1.heap.size ∧ 5 ≤ c1 ∧ ∀ j x, (Lib.byteCells s.data.toList)[j]? = some x → w1.cell? ⟨g, j, none⟩ = some x := by
    rcases ho1 with ⟨_, h⟩ | ⟨g, c1, h1, h2, h3, h4, h5, _⟩
    · rw [h] at HL; exact absurd HL.out (by simp)
    · rw [HL.out] at h1 h4
      exact ⟨g, c1, h1, h2, h3, h4, h5⟩
  subst hv1
  have HB1 := Lib.hid hb1
  have HCL := Lib.hid hcl
  have g1 : (5 : Int) ≤ c1 := by omega
  clear ho1 hg1 hb1 hcl
  go_wp2_with fail
  go_loopw [3, 4] (fun v b wr => (v = .slice none 0 0 ∧ b = .slice (some ⟨g, 0, none⟩) 5 c1 ∧ wr = w1) ∨ (∃ (p : Option Addr) (c : Nat), b = .slice p 0 c ∧ Aside (OwnS w.heap.size wr v [R]) ∧ Aside (Below w.heap.size w wr))) (fun _ b _ => match b with | .slice _ n _ => n | _ => 0)
  case atStart => exact .inl ⟨rfl, rfl, rfl⟩
  case round =>
    obtain ⟨rfl, rfl, rfl⟩ | ⟨p, c, rfl, HO, HB⟩ := hrel
    · go_wp2_with fail
      refine (HNZ.out _).mono ?_
      rintro e w2 ⟨rfl, hb2⟩
      have hcl2 : ∀ j x, (Lib.byteCells s.data.toList)[j]? = some x → w2.cell? ⟨g, j, none⟩ = some x := fun j x hx => (hb2.cell (p := ⟨g, j, none⟩) hg2).trans (HCL.out j x hx)
      have HB2 := Lib.hid (HB1.out.trans (hb2.mono HB1.out.size))
      have HCL2 := Lib.hid hcl2
      clear hb2 hcl2
      go_wp2_with (at_builtin; refine wpList_appendStr rfl _ _ 167 9 rfl 5 Tryz.underlying167 Tryz.underlying9 infoU8 g 5 s.data.toList rfl HL.out HCL2.out q ?c0 ?c1 ?c2 ?_)
      case c0 => rw [← hq] <;> rfl
      case c1 => omega
      case c2 => omega
      intro v3 w3 ho3 hg3
      have hb3 : Below w.heap.size w w3 := HB2.out.grown hg3 HB2.out.size (fun r e => by cases e)
      obtain ⟨p3, c3, hv3⟩ := ho3.form
      rw [List.length_append, HL.out, show q.data.toList.length = 27 from h27] at hv3
      subst hv3
      have hstr := ho3.str (P := Tryz.prog) (src := 167) (dst := 9) Tryz.underlying167 Tryz.underlying5 Tryz.underlying9
      rw [HPK.out] at hstr
      have HB3 := Lib.hid hb3
      clear ho3 hg3 hb3 HB2 HCL2
      go_wp2_with (at_builtin; refine wpList_appendT rfl _ _ 27 rfl w.heap.size Tryz.underlying27 infoStr _ [] rfl (OwnS.nil _ _) ⟨w3.heap.size, 0, none⟩ 1 R rfl ?d0 ?d1 ?d2 ?_)
      case d0 => exact cells_new_at rfl [.string R] 9 0 _ rfl
      case d1 => simp
      case d2 => have := HB3.out.size; simp; omega
      intro v4 w4 ho4 hg4
      have hb4 : Below w.heap.size w w4 := (HB3.out.alloc HB3.out.size _).grown hg4 (by have := HB3.out.size; simp; omega) (fun r e => by cases e)
      have HO4 := Lib.hid (show OwnS w.heap.size w4 v4 [R] from ho4)
      have HB4 := Lib.hid hb4
      clear ho4 hg4 hb4 HB3 hstr
      go_wp2
      go_roundw
      case rel => exact .inr ⟨_, _, rfl, HO4.out, HB4.out⟩
      case measure => simp <;> decide
    · go_wp2
      go_ret
      exact ⟨_, rfl, HO.out, HB.out⟩
end Go.Proofs.YtpfmdhcmhcoddaaGreatDoor
