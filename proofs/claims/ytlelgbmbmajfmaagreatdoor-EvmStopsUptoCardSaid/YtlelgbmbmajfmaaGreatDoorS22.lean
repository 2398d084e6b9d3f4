/- What the walks take: Ew16. -/
import Derived.Test.YtlelgbmbmajfmaaGreatDoorS3
import Derived.ArgAppend
import Derived.Lib.ConvBytes
namespace Go.Proofs.YtlelgbmbmajfmaaGreatDoor
open Go.RowKit
variable {P : Program}
def OwnC (base : Nat) (w : World) (v : Value) (l : List UInt8) : Prop :=
  (v = .slice none 0 0 ∧ l = []) ∨ ∃ g cap, v = .slice (some ⟨g, 0, none⟩) l.length cap ∧ base ≤ g ∧ g < w.heap.size ∧ l.length ≤ cap ∧
    (∀ j u, (Lib.byteCells l)[j]? = some u → w.cell? ⟨g, j, none⟩ = some u) ∧ ∀ j, j < cap → (w.cell? ⟨g, j, none⟩).isSome = true ∧ w.frozen? ⟨g, j, none⟩ = false
theorem OwnC.nil (base : Nat) (w : World) : OwnC base w (.slice none 0 0) [] := .inl ⟨rfl, rfl⟩
theorem OwnC.form {base : Nat} {w : World} {v : Value} {l : List UInt8} (h : OwnC base w v l) : ∃ p c, v = .slice p l.length c := by
  rcases h with ⟨rfl, rfl⟩ | ⟨g, cap, rfl, _⟩
  · exact ⟨none, 0, rfl⟩
  · exact ⟨_, _, rfl⟩
theorem OwnC.lt {base : Nat} {w : World} {v : Value} {l : List UInt8} (h : OwnC base w v l) : ∀ k, v.ownBlock = some k → base ≤ k ∧ k < w.heap.size := by
  intro k hk
  rcases h with ⟨rfl, rfl⟩ | ⟨g, cap, rfl, hb, hg, _⟩
  · cases hk
  · cases hk; exact ⟨hb, hg⟩
theorem OwnC.of_block {base : Nat} {w w' : World} {v : Value} {l : List UInt8} (h : OwnC base w v l) (hs : w.heap.size ≤ w'.heap.size) (hb : ∀ k, v.ownBlock = some k → w'.heap[k]? = w.heap[k]?) : OwnC base w' v l := by
  rcases h with h | ⟨g, cap, rfl, h1, h2, h3, h4, h5⟩
  · exact .inl h
  · have e := hb g rfl
    refine .inr ⟨g, cap, rfl, h1, by omega, h3, fun j u hu => (World.cell?_of_block (a := ⟨g, j, none⟩) e).trans (h4 j u hu), fun j hj => ?_⟩
    rw [World.cell?_of_block (a := ⟨g, j, none⟩) e, World.frozen?_of_block (a := ⟨g, j, none⟩) e]
    exact h5 j hj
theorem OwnC.kept {base : Nat} {w w' : World} {row : Option Nat} {v : Value} {l : List UInt8} (h : OwnC base w v l) (hg : w.grownBy w' row) (hne : v.ownBlock = none ∨ v.ownBlock ≠ row) : OwnC base w' v l :=
  h.of_block hg.size (fun k hk => hg.block k (h.lt k hk).2 (by rw [← hk]; rcases hne with hne | hne; · rw [hk] at hne; cases hne
                                                               · exact hne))
theorem OwnC.alloc {base : Nat} {w : World} {v : Value} {l : List UInt8} (h : OwnC base w v l) (o : Obj) : OwnC base (w.alloc o) v l :=
  h.kept (World.grownBy_alloc w o none) (by cases hv : v.ownBlock <;> simp)
theorem OwnC.below {base B : Nat} {w w' : World} {v : Value} {l : List UInt8} (h : OwnC base w v l) (hb : Below B w w') (hB : w.heap.size ≤ B) : OwnC base w' v l :=
  h.of_block hb.size (fun k hk => hb.block k (by have := (h.lt k hk).2; omega))
theorem OwnC.base {b b' : Nat} {w : World} {v : Value} {l : List UInt8} (h : OwnC b w v l) (hb : b' ≤ b) : OwnC b' w v l := by
  rcases h with h | ⟨g, cap, h0, h1, h2⟩
  · exact .inl h
  · exact .inr ⟨g, cap, h0, by omega, h2⟩
theorem OwnC.ofB {e : TypeId} {base : Nat} {w : World} {v : Value} {l : List UInt8} (h : OwnB e base w v l) : OwnC base w v l := by
  have hh := h
  obtain ⟨h1, ⟨rfl, h0⟩ | ⟨g, cap, cur, rfl, hb, hg, hn, hm, hc, ht⟩⟩ := h
  · exact .inl ⟨rfl, List.length_eq_zero_iff.1 h0⟩
  · refine .inr ⟨g, cap, rfl, hb, (Array.getElem?_eq_some_iff.1 hg).1, hn, fun j u hu => ?_, fun j hj => ⟨?_, frozen_of_row w g j cur e hg⟩⟩
    · have := World.ownsRow.cells (g := g) hh rfl j u hu
      rwa [Addr.add_zero'] at this
    · rw [cell_of_row w g j cur e (0, 0) hg, Array.getElem?_eq_getElem (by omega)]; rfl
where
  Addr.add_zero' {g j : Nat} : (⟨g, 0, none⟩ : Addr).add j = ⟨g, j, none⟩ := by
    unfold Addr.add; split
    · rename_i h0; subst h0; rfl
    · simp
theorem addr_add (g j : Nat) : (⟨g, 0, none⟩ : Addr).add j = ⟨g, j, none⟩ := by
  unfold Addr.add; split
  · rename_i h0; subst h0; rfl
  · simp
theorem heap_setCells_other (b : Nat) : ∀ (vs : List Value) (o : Nat) (w : World) (k : Nat), k ≠ b → (w.setCells b o vs).heap[k]? = w.heap[k]?
  | [], _, _, _, _ => rfl
  | v :: vs, o, w, k, h => (heap_setCells_other b vs (o + 1) (w.setCell ⟨b, o, none⟩ v) k h).trans (Below.heap_setCell w ⟨b, o, none⟩ v k h)
theorem size_setCells (b : Nat) : ∀ (vs : List Value) (o : Nat) (w : World), (w.setCells b o vs).heap.size = w.heap.size
  | [], _, _ => rfl
  | v :: vs, o, w => (size_setCells b vs (o + 1) (w.setCell ⟨b, o, none⟩ v)).trans (World.size_setCell _ _ _)
theorem plain_setCells (b : Nat) : ∀ (vs : List Value) (o : Nat) (w : World), (w.setCells b o vs).os = w.os ∧ (w.setCells b o vs).tape = w.tape ∧ (w.setCells b o vs).output = w.output
  | [], _, _ => ⟨rfl, rfl, rfl⟩
  | v :: vs, o, w => plain_setCells b vs (o + 1) (w.setCell ⟨b, o, none⟩ v)
theorem run_appendC (base : Nat) (w : World) (t ty e : TypeId) (ht : P.underlying t = some (.slice e)) (hi : (P.info? e).map (fun i => (i.zero, i.size, i.bytes)) = some (some (.int .u8 0), 1, 1))
    (v : Value) (l : List UInt8) (hown : OwnC base w v l)
    (ad : Addr) (m c : Nat) (news : List UInt8) (hl : news.length = m) (hnews : ∀ j u, (Lib.byteCells news)[j]? = some u → w.cell? (ad.add j) = some u)
    (h63 : l.length + m ≤ 140737488355328) (hbase : base ≤ w.heap.size) :
    ∃ v' w', (Builtin.append_ #[t, t] ty #[v, .slice (some ad) m c]).run P w = .ok v' w' ∧ OwnC base w' v' (l ++ news) ∧ w.grownBy w' v.ownBlock := by
  obtain ⟨i0, hi0, hz0, hz1, hz2⟩ := info_parts hi
  have hnl : (Lib.byteCells news).length = m := by rw [Lib.byteCells_length]; omega
  rcases hown with ⟨rfl, rfl⟩ | ⟨g, cap, rfl, hb, hg, hn, hc, hf⟩
  · obtain ⟨v', w', h1, h2, h3, _⟩ := run_append_own (P := P) w base t ty e i0 (.int .u8 0) 1 1 ht hi0 hz0 hz1 hz2 rfl (by decide) (.slice none 0 0) 0 [] (World.ownsRow_nil _ _ _ _) ad m c (Lib.byteCells news) (by omega) hnews (byteCells_one _) (by unfold maxLen; simp at h63; omega) (by simp at h63; omega) hbase
    refine ⟨v', w', h1, OwnC.ofB (e := e) ?_, h3⟩
    unfold OwnB
    simp only [Nat.zero_add, List.nil_append] at h2 ⊢
    rw [hl]
    exact h2
  · by_cases hr : l.length + m ≤ cap
    · have hat : ∀ j, j < m → (w.cell? ⟨g, 0 + l.length * i0.size + j, none⟩).isSome = true ∧ w.frozen? ⟨g, 0 + l.length * i0.size + j, none⟩ = false := fun j hj => by
        rw [hz1, Nat.mul_one, Nat.zero_add]; exact hf _ (by omega)
      have hrun := run_append_room_cells (P := P) w t ty e i0 ht hi0 g 0 l.length cap ad m c (Lib.byteCells news) (by rw [hz1]; omega) hnews (byteCells_one _) hr (fun j hj => (hat j (by omega)).1) (fun j hj => (hat j (by omega)).2)
      rw [hz1, Nat.mul_one, Nat.zero_add] at hrun hat
      refine ⟨_, _, hrun, .inr ⟨g, cap, by rw [List.length_append, hl], hb, by rw [size_setCells]; exact hg, by rw [List.length_append]; omega, fun j u hu => ?_, fun j hj => ⟨World.isSome_setCells' g _ _ w _ (hf j hj).1, by rw [World.frozen?_setCells]; exact (hf j hj).2⟩⟩, ?_⟩
      · rw [Lib.byteCells_append] at hu
        rcases Nat.lt_or_ge j l.length with hj | hj
        · rw [List.getElem?_append_left (by rw [Lib.byteCells_length]; exact hj)] at hu
          rw [World.cell?_setCells_out g _ _ w ⟨g, j, none⟩ (fun _ _ => .inl hj)]
          exact hc j u hu
        · rw [List.getElem?_append_right (by rw [Lib.byteCells_length]; exact hj), Lib.byteCells_length] at hu
          have hk := (List.getElem?_eq_some_iff.1 hu).1
          have := World.cell?_setCells_in g (Lib.byteCells news) l.length w (fun j hj => (hat j (by omega)).1) (j - l.length) hk
          rw [show l.length + (j - l.length) = j from by omega] at this
          rw [this, ← hu]
          exact (List.getElem?_eq_getElem hk).symm
      · exact ⟨(plain_setCells g _ _ w).1, (plain_setCells g _ _ w).2.1, (plain_setCells g _ _ w).2.2, by rw [size_setCells]; exact Nat.le_refl _, fun k _ hk => heap_setCells_other g _ _ w k (fun e => hk (by rw [e]; rfl))⟩
    · obtain ⟨v', w', h1, h2, h3⟩ := run_append_arg_grows (P := P) w t ty e i0 (.int .u8 0) 1 1 ht hi0 hz0 hz1 hz2 rfl (by decide) ⟨g, 0, none⟩ l.length cap (Lib.byteCells l) (by rw [Lib.byteCells_length]; omega) (fun j u hu => by rw [addr_add]; exact hc j u hu) ad m c (Lib.byteCells news) (by omega) hnews (by omega) (by unfold maxLen; omega) (by omega)
      refine ⟨v', w', h1, (OwnC.ofB (e := e) ?_ : OwnC w.heap.size w' v' (l ++ news)).base hbase, ⟨h3.os, h3.tape, h3.output, h3.size, fun k hk _ => h3.block k hk (by simp)⟩⟩
      unfold OwnB
      rw [Lib.byteCells_append, List.length_append, hl]
      exact h2
where
  World.isSome_setCells' (b : Nat) : ∀ (vs : List Value) (o : Nat) (w : World) (x : Addr), (w.cell? x).isSome = true → ((w.setCells b o vs).cell? x).isSome = true
    | [], _, _, _, h => h
    | v :: vs, o, w, x, h => World.isSome_setCells' b vs (o + 1) (w.setCell ⟨b, o, none⟩ v) x (by
      by_cases e : (⟨b, o, none⟩ : Addr) = x
      · subst e
        obtain ⟨u, hu⟩ := Option.isSome_iff_exists.1 h
        rw [World.cell?_setCell_same _ _ _ hu]; rfl
      · rw [World.cell?_setCell_other _ _ _ _ e]; exact h)
theorem wpList_appendC {ops : Array Oper} {rest : List Oper} {o : Oper} {a : Act} {w : World} {Q : Exit → Act → World → Prop} (hgd : o.guard = none) (s x : Operand) (t : TypeId)
    (ho : o.op = .call { callee := .builtin .append, args := #[s, x], argTypes := #[t, t] })
    (base : Nat) (e : TypeId) (ht : P.underlying t = some (.slice e)) (hi : (P.info? e).map (fun i => (i.zero, i.size, i.bytes)) = some (some (.int .u8 0), 1, 1))
    (v : Value) (l : List UInt8) (hs : a.eval s = v) (hown : OwnC base w v l)
    (ad : Addr) (m c : Nat) (news : List UInt8) (hx : a.eval x = .slice (some ad) m c) (hl : news.length = m) (hnews : ∀ j u, (Lib.byteCells news)[j]? = some u → w.cell? (ad.add j) = some u)
    (h63 : l.length + m ≤ 140737488355328) (hbase : base ≤ w.heap.size)
    (h : ∀ v' w', OwnC base w' v' (l ++ news) → w.grownBy w' v.ownBlock → wpList P ops Q rest (a.put o.dst v') w') : wpList P ops Q (o :: rest) a w := by
  obtain ⟨v', w', hr, h2, h3⟩ := run_appendC (P := P) base w t o.type e ht hi v l hown ad m c news hl hnews h63 hbase
  refine wpList_plain hgd fun K hK => ?_
  unfold Oper.wp execOp
  simp only [ho, resolve, invoke, builtin, Sem.run_bind, Sem.run_pure, Result.andThen_ok, List.map_toArray, List.map_cons, List.map_nil, hs, hx, hr]
  exact hK _ _ (h v' w' h2 h3)
theorem wpList_bytesOf {ops : Array Oper} {rest : List Oper} {o : Oper} {a : Act} {w : World} {Q : Exit → Act → World → Prop} (hgd : o.guard = none) (src dst : TypeId) (x : Operand) (ho : o.op = .convert src dst x)
    (e : TypeId) (hs : P.underlying src = some .string) (hd : P.underlying dst = some (.slice e)) (he : P.underlying e = some (.int .u8))
    (s : ByteArray) (hx : a.eval x = .string s)
    (h : ∀ v' w', OwnC w.heap.size w' v' s.data.toList → w.grownBy w' none → wpList P ops Q rest (a.put o.dst v') w') : wpList P ops Q (o :: rest) a w := by
  have hrun := Lib.run_convert_string_bytes (P := P) w src dst e s hs hd he
  refine wpList_plain hgd fun K hK => ?_
  unfold Oper.wp execOp
  simp only [ho, hx, Sem.run_bind, hrun, Result.andThen_ok, Sem.run_pure]
  have hcs : (Lib.bytesCells w e s).size = grownCap w s.size 0 e := by
    have h1 := grownCap_ge w s.size 0 e
    have h2 : s.data.size = s.size := rfl
    simp only [Lib.bytesCells, Array.size_append, Array.size_map, Array.size_replicate]
    omega
  have hge := grownCap_ge w s.size 0 e
  have hnew := Lib.bytesWorld_at_new w e s
  refine hK _ _ (h _ (Lib.bytesWorld w e s) (.inr ⟨w.heap.size, _, by rw [show s.data.toList.length = s.size from rfl], Nat.le_refl _, by rw [Lib.bytesWorld_size]; omega, hge, fun j u hu => ?_, fun j hj => ?_⟩) ?_)
  · have hj := (List.getElem?_eq_some_iff.1 hu).1
    rw [Lib.byteCells_length] at hj
    rw [Lib.bytesWorld_cell w e s j hj, ← hu]
    simp only [Lib.byteCells, List.getElem?_map]
    rw [List.getD_eq_getElem?_getD, List.getElem?_eq_getElem hj]
    rfl
  · constructor
    · simp only [World.cell?, hnew]
      rw [Array.getElem?_eq_getElem (by omega)]
      rfl
    · simp only [World.frozen?, hnew]
      rw [hcs]
      simp
      omega
  · exact ⟨rfl, rfl, rfl, by rw [Lib.bytesWorld_size]; omega, fun k hk _ => Lib.bytesWorld_at_old w e s k hk⟩
theorem OwnC.cells {base : Nat} {w : World} {v : Value} {l : List UInt8} (h : OwnC base w v l) {g : Nat} (hg : v.ownBlock = some g) : ∀ j u, (Lib.byteCells l)[j]? = some u → w.cell? ⟨g, j, none⟩ = some u := by
  rcases h with ⟨rfl, rfl⟩ | ⟨g', cap, rfl, _, _, _, hc, _⟩
  · cases hg
  · cases hg; exact hc
theorem OwnC.str {e src dst : TypeId} {base : Nat} {w : World} {v : Value} {l : List UInt8} (h : OwnC base w v l)
    (hs : P.underlying src = some (.slice e)) (he : P.underlying e = some (.int .u8)) (hd : P.underlying dst = some .string) :
    (convert src dst v).run P w = .ok (.string ⟨l.toArray⟩) w := by
  rcases h with ⟨rfl, rfl⟩ | ⟨g, cap, rfl, _, _, _, hc, _⟩
  · rw [run_convert_bytes_string w src dst e none 0 0 hs he hd]
    rfl
  · exact run_convert_bytes_back w src dst e _ cap l hs he hd (fun j hj => by rw [addr_add]; exact hc j _ (by simp [Lib.byteCells, hj]))
end Go.Proofs.YtlelgbmbmajfmaaGreatDoor
