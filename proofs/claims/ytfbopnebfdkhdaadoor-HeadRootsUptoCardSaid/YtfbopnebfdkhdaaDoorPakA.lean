/- Contracts of ssz.Pack and pharosref08.Pack for a text of five. -/
import Derived.Test.YtfbopnebfdkhdaaDoorRf8F
import Derived.Lib.AppendStr
namespace Go.Proofs.YtfbopnebfdkhdaaDoor
open Go.RowKit Go.Shelf Go.Lib
attribute [local go_sem] Oper.semAt_some

/-- a text of five as a chunk -/
def pack5 (s : ByteArray) : ByteArray := s ++ ⟨(List.replicate 27 0).toArray⟩
theorem pack5_size {s : ByteArray} (h : s.size = 5) : (pack5 s).size = 32 := by
  unfold pack5
  rw [ByteArray.size_append, h]; simp [ByteArray.size]
theorem run_appendStr_grow {P : Program} (w : World) (t u ty e : TypeId) (ht : P.underlying t = some (.slice e)) (hu : P.underlying u = some .string) (hi : (P.info? e).map (fun i => (i.zero, i.size, i.bytes)) = some (some (.int .u8 0), 1, 1))
    (g n : Nat) (l : List UInt8) (hl : l.length = n) (hc : ∀ j x, (Lib.byteCells l)[j]? = some x → w.cell? ⟨g, j, none⟩ = some x) (s : ByteArray) (h0 : 0 < s.size) (hsm : n + s.size ≤ 1099511627776) :
    ∃ v' w', (Builtin.append_ #[t, u] ty #[.slice (some ⟨g, 0, none⟩) n n, .string s]).run P w = .ok v' w' ∧ OwnC w.heap.size w' v' (l ++ s.data.toList) ∧ w.grownBy w' none := by
  obtain ⟨i0, hi0, hz0, hz1, hz2⟩ := info_parts hi
  have hbl := Lib.byteCells_length l
  have hr := run_append_grow_string (P := P) w t u ty e i0 (.int .u8 0) ht hu hi0 hz0 ⟨g, 0, none⟩ n n (Lib.byteCells l) (by rw [hz1]; omega) (fun j x hx => by rw [addr_add]; exact hc j x hx) s (by omega) (by omega) (growslice_fits (by omega) (by rw [hz2]; omega))
  have hss : s.data.toList.length = s.size := rfl
  have hge := grownCap_ge w (n + s.size) n e
  refine ⟨_, _, hr, .inr ⟨w.heap.size, _, by rw [List.length_append, hl, hss], Nat.le_refl _, by simp, by rw [List.length_append, hl, hss]; exact hge, fun j x hx => ?_, fun j hj => ?_⟩, ⟨rfl, rfl, rfl, by simp, fun k hk _ => Below.heap_alloc w.drew _ k hk⟩⟩
  · have hlt := (List.getElem?_eq_some_iff.1 hx).1
    rw [Lib.byteCells_length, List.length_append, hl, hss] at hlt
    rw [show w.heap.size = w.drew.heap.size from rfl, World.cell?_alloc_mark]
    rw [Lib.byteCells_append] at hx
    have e1 : (Lib.byteCells l ++ Lib.byteCells s.data.toList).length = n + s.size := by rw [List.length_append, Lib.byteCells_length, Lib.byteCells_length, hl, hss]
    rw [Array.getElem?_append_left (by simp [strCells_length, hbl]; omega)]
    simpa [strCells, Lib.byteCells] using hx
  · constructor
    · rw [show w.heap.size = w.drew.heap.size from rfl, World.cell?_alloc_mark]
      rw [Array.getElem?_eq_getElem (by simp [Builtin.zeroCells, strCells_length, hbl, Value.cells]; omega)]
      rfl
    · rw [World.frozen?, show w.heap.size = w.drew.heap.size from rfl, World.alloc_heap_new]
      simp
theorem wpList_appendStr {P : Program} {ops : Array Oper} {rest : List Oper} {o : Oper} {a : Act} {w : World} {Q : Exit → Act → World → Prop} (hgd : o.guard = none) (sl x : Operand) (t u : TypeId)
    (ho : o.op = .call { callee := .builtin .append, args := #[sl, x], argTypes := #[t, u] })
    (e : TypeId) (ht : P.underlying t = some (.slice e)) (hu : P.underlying u = some .string) (hi : (P.info? e).map (fun i => (i.zero, i.size, i.bytes)) = some (some (.int .u8 0), 1, 1))
    (g n : Nat) (l : List UInt8) (hs : a.eval sl = .slice (some ⟨g, 0, none⟩) n n) (hl : l.length = n) (hc : ∀ j x, (Lib.byteCells l)[j]? = some x → w.cell? ⟨g, j, none⟩ = some x) (s : ByteArray) (hx : a.eval x = .string s) (h0 : 0 < s.size) (hsm : n + s.size ≤ 1099511627776)
    (h : ∀ v' w', OwnC w.heap.size w' v' (l ++ s.data.toList) → w.grownBy w' none → wpList P ops Q rest (a.put o.dst v') w') : wpList P ops Q (o :: rest) a w := by
  obtain ⟨v', w', hr, h2, h3⟩ := run_appendStr_grow (P := P) w t u o.type e ht hu hi g n l hl hc s h0 hsm
  refine wpList_plain hgd fun K hK => ?_
  unfold Oper.wp execOp
  simp only [ho, resolve, invoke, builtin, Sem.run_bind, Sem.run_pure, Result.andThen_ok, List.map_toArray, List.map_cons, List.map_nil, hs, hx, hr]
  exact hK _ _ (h v' w' h2 h3)
theorem nought27 : noughtB.extract 5 32 = ⟨(List.replicate 27 0).toArray⟩ := by kernel_rfl
theorem pack5_list (s : ByteArray) : (⟨(s.data.toList ++ (noughtB.extract 5 32).data.toList).toArray⟩ : ByteArray) = pack5 s := by
  rw [nought27]
  unfold pack5
  refine ByteArray.ext ?_
  rw [ByteArray.data_append]
  simp
set_option maxRecDepth 100000 in
set_option maxHeartbeats 3200000 in
theorem pack5_any (s : ByteArray) (w : World) (hs : s.size = 5) :
    Calls Tryd.prog 42 #[.string s] w fun e w' => ∃ v', e = .returned v' ∧ OwnS w.heap.size w' v' [pack5 s] ∧ Below w.heap.size w w' := by
  have hlen : s.data.toList.length = 5 := hs
  have hpk := pack5_list s
  have hnz := fun W => nought_any W
  have h27 : (noughtB.extract 5 32).size = 27 := by kernel_rfl
  have hns := noughtB_size
  obtain ⟨z, hz⟩ : ∃ z, noughtB = z := ⟨_, rfl⟩
  rw [hz] at hpk hnz h27 hns
  obtain ⟨q, hq⟩ : ∃ q, z.extract 5 32 = q := ⟨_, rfl⟩
  rw [hq] at hpk h27
  obtain ⟨R, hR⟩ : ∃ R, pack5 s = R := ⟨_, rfl⟩
  rw [hR] at hpk ⊢
  have HPK := Lib.hid hpk
  have HNZ := Lib.hid hnz
  have HL := Lib.hid hlen
  clear hpk hnz hlen hz hR hs
  go_enter Tryd.func42, Tryd.ntmps42
  go_wp2_with (with_reducible refine wpList_haltConv 9 62 _ rfl ?_)
  refine Halt.mk ?_
  refine wpList_bytesOf rfl 9 62 _ rfl 5 Tryd.underlying9 Tryd.underlying62 Tryd.underlying5 s rfl ?_
  intro v1 w1 ho1 hg1
  have hb1 : Below w.heap.size w w1 := (Below.refl _ _).grown hg1 (Nat.le_refl _) (fun r e => by cases e)
  obtain ⟨g, c1, hv1, hg0, hg2, hcap, hcl⟩ : ∃ g c1, v1 = .slice (some ⟨g, 0, none⟩) 5 c1 ∧ w.heap.size ≤ g ∧ g < w1.heap.size ∧ 5 ≤ c1 ∧ ∀ j x, (Lib.byteCells s.data.toList)[j]? = some x → w1.cell? ⟨g, j, none⟩ = some x := by
    rcases ho1 with ⟨_, h⟩ | ⟨g, c1, h1, h2, h3, h4, h5, _⟩
    · rw [h] at HL; exact absurd HL.out (by simp)
    · rw [HL.out] at h1 h4
      exact ⟨g, c1, h1, h2, h3, h4, h5⟩
  subst hv1
  have HB1 := Lib.hid hb1
  have HCL := Lib.hid hcl
  have g1 : (5 : Int) ≤ c1 := by omega
  clear ho1 hg1 hb1 hcl
  go_wp2_with fail
  go_loopw [3, 4] (fun v b wr => (v = .slice none 0 0 ∧ b = .slice (some ⟨g, 0, none⟩) 5 c1 ∧ wr = w1) ∨ (∃ (p : Option Addr) (c : Nat), b = .slice p 0 c ∧ Aside (OwnS w.heap.size wr v [R]) ∧ Aside (Below w.heap.size w wr))) (fun _ b _ => match b with | .slice _ n _ => n | _ => 0)
  case atStart => exact .inl ⟨rfl, rfl, rfl⟩
  case round =>
    obtain ⟨rfl, rfl, rfl⟩ | ⟨p, c, rfl, HO, HB⟩ := hrel
    · go_wp2_with fail
      refine (HNZ.out _).mono ?_
      rintro e w2 ⟨rfl, hb2⟩
      have hcl2 : ∀ j x, (Lib.byteCells s.data.toList)[j]? = some x → w2.cell? ⟨g, j, none⟩ = some x := fun j x hx => (hb2.cell (p := ⟨g, j, none⟩) hg2).trans (HCL.out j x hx)
      have HB2 := Lib.hid (HB1.out.trans (hb2.mono HB1.out.size))
      have HCL2 := Lib.hid hcl2
      clear hb2 hcl2
      go_wp2_with (at_builtin; refine wpList_appendStr rfl _ _ 62 9 rfl 5 Tryd.underlying62 Tryd.underlying9 infoU8 g 5 s.data.toList rfl HL.out HCL2.out q ?c0 ?c1 ?c2 ?_)
      case c0 => rw [← hq] <;> rfl
      case c1 => omega
      case c2 => omega
      intro v3 w3 ho3 hg3
      have hb3 : Below w.heap.size w w3 := HB2.out.grown hg3 HB2.out.size (fun r e => by cases e)
      obtain ⟨p3, c3, hv3⟩ := ho3.form
      rw [List.length_append, HL.out, show q.data.toList.length = 27 from h27] at hv3
      subst hv3
      have hstr := ho3.str (P := Tryd.prog) (src := 62) (dst := 9) Tryd.underlying62 Tryd.underlying5 Tryd.underlying9
      rw [HPK.out] at hstr
      have HB3 := Lib.hid hb3
      clear ho3 hg3 hb3 HB2 HCL2
      go_wp2_with (at_builtin; refine wpList_appendT rfl _ _ 30 rfl w.heap.size Tryd.underlying30 infoStr _ [] rfl (OwnS.nil _ _) ⟨w3.heap.size, 0, none⟩ 1 R rfl ?d0 ?d1 ?d2 ?_)
      case d0 => exact cells_new_at rfl [.string R] 9 0 _ rfl
      case d1 => simp
      case d2 => have := HB3.out.size; simp; omega
      intro v4 w4 ho4 hg4
      have hb4 : Below w.heap.size w w4 := (HB3.out.alloc HB3.out.size _).grown hg4 (by have := HB3.out.size; simp; omega) (fun r e => by cases e)
      have HO4 := Lib.hid (show OwnS w.heap.size w4 v4 [R] from ho4)
      have HB4 := Lib.hid hb4
      clear ho4 hg4 hb4 HB3 hstr
      go_wp2
      go_roundw
      case rel => exact .inr ⟨_, _, rfl, HO4.out, HB4.out⟩
      case measure => simp <;> decide
    · go_wp2
      go_ret
      exact ⟨_, rfl, HO.out, HB.out⟩
set_option maxRecDepth 100000 in
set_option maxHeartbeats 3200000 in
theorem rpack5_any (s : ByteArray) (w : World) (hs : s.size = 5) :
    Calls Tryd.prog 44 #[.string s] w fun e w' => ∃ v', e = .returned v' ∧ OwnS w.heap.size w' v' [pack5 s] ∧ Below w.heap.size w w' := by
  have hnz := fun W => noughts_any 27 W (by omega)
  have hpk : s ++ ⟨(List.replicate 27 0).toArray⟩ = pack5 s := rfl
  have h27 : (⟨(List.replicate 27 0).toArray⟩ : ByteArray).size = 27 := by kernel_rfl
  have hex : s.extract 0 5 = s := by rw [← hs]; exact ByteArray.extract_zero_size
  obtain ⟨q, hq⟩ : ∃ q : ByteArray, ⟨(List.replicate 27 0).toArray⟩ = q := ⟨_, rfl⟩
  rw [hq] at hpk hnz h27
  obtain ⟨R, hR⟩ : ∃ R, pack5 s = R := ⟨_, rfl⟩
  rw [hR] at hpk ⊢
  have HNZ := Lib.hid hnz
  have HPK := Lib.hid hpk
  have g9 : ¬ 9223372036854775807 < s.size + q.size := by omega
  have g7 : (min (32 : Int) 5).toNat = 5 := by decide
  clear hnz hq hR hpk
  go_enter Tryd.func44, Tryd.ntmps44
  go_wp2_with fail
  go_loopw [3, 4] (fun v i wr => (v = .slice none 0 0 ∧ i = .int .i64 0 ∧ wr = w) ∨ (i = .int .i64 32 ∧ Aside (OwnS w.heap.size wr v [R]) ∧ Aside (Below w.heap.size w wr))) (fun _ i _ => 32 - (RowKit.intOf i).toNat)
  case atStart => exact .inl ⟨rfl, rfl, rfl⟩
  case round =>
    obtain ⟨rfl, rfl, rfl⟩ | ⟨rfl, HO, HB⟩ := hrel
    · go_wp2_with fail
      refine (HNZ.out _).mono ?_
      rintro e w1 ⟨rfl, hb1⟩
      have hz1 := hb1.size
      go_wp2_with (at_builtin; refine wpList_appendT rfl _ _ 30 rfl wr.heap.size Tryd.underlying30 infoStr _ [] rfl (OwnS.nil _ _) ⟨w1.heap.size, 0, none⟩ 1 (s ++ q) rfl ?d0 ?d1 ?d2 ?_)
      case d0 => exact cells_new_at rfl [.string (s ++ q)] 9 0 _ rfl
      case d1 => simp
      case d2 => simp; omega
      intro v4 w4 ho4 hg4
      have hb4 : Below wr.heap.size wr w4 := (hb1.alloc hz1 _).grown hg4 (by simp; omega) (fun r e => by cases e)
      rw [HPK.out] at ho4
      have HO4 := Lib.hid (show OwnS wr.heap.size w4 v4 [R] from ho4)
      have HB4 := Lib.hid hb4
      clear ho4 hg4 hb4
      go_wp2
      go_roundw
      case rel => exact .inr ⟨rfl, HO4.out, HB4.out⟩
      case measure => simp [RowKit.intOf]
    · go_wp2
      go_ret
      exact ⟨_, rfl, HO.out, HB.out⟩
end Go.Proofs.YtfbopnebfdkhdaaDoor
