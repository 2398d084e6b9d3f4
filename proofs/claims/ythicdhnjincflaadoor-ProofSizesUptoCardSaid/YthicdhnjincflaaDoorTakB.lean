/- Contract of the reference's take: the item that begins at a place. -/
import Derived.Test.YthicdhnjincflaaDoorShoT
namespace Go.Proofs.YthicdhnjincflaaDoor
open Go.RowKit Go.Shelf Go.Lib

/-- what take gives of the item at the place a, in a text l -/
def TakeIs (l : List UInt8) (a : Nat) (e : Ending) (w w' : World) : Prop :=
  Below w.heap.size w w' ∧
  ((∃ (x : Item) (p : Option Addr) (c next : Nat), e = .returned (.tuple #[.agg #[.bool x.isList, .string ⟨x.text.toArray⟩, .slice p x.list.length c], .int .i64 next, .bool true]) ∧
    Hid (a < next ∧ next ≤ l.length ∧ first (l.drop a) = some (x, l.drop next)) ∧ Hid (ReadsIn w' (fun g => w.heap.size ≤ g ∧ g < w'.heap.size) (.slice p x.list.length c) x.list)) ∨
   (e = .returned (.tuple #[.agg #[.bool false, .string ⟨#[]⟩, .slice none 0 0], .int .i64 0, .bool false]) ∧ Hid (first (l.drop a) = Option.none)))
/-- three cells of a block that may be written -/
def Box3 (W : World) (b : Nat) (v0 v1 v2 : Value) : Prop := W.cell? ⟨b, 0, none⟩ = some v0 ∧ W.cell? ⟨b, 1, none⟩ = some v1 ∧ W.cell? ⟨b, 2, none⟩ = some v2 ∧ ∀ i, W.frozen? ⟨b, i, none⟩ = false
theorem Box3.kept {W W' : World} {b : Nat} {v0 v1 v2 : Value} (h : Box3 W b v0 v1 v2) (hb : W'.heap[b]? = W.heap[b]?) : Box3 W' b v0 v1 v2 := by
  obtain ⟨h0, h1, h2, h3⟩ := h
  exact ⟨(World.cell?_of_block (a := ⟨b, 0, none⟩) hb).trans h0, (World.cell?_of_block (a := ⟨b, 1, none⟩) hb).trans h1, (World.cell?_of_block (a := ⟨b, 2, none⟩) hb).trans h2, fun i => (World.frozen?_of_block (a := ⟨b, i, none⟩) hb).trans (h3 i)⟩
theorem Box3.set2 {W : World} {b : Nat} {v0 v1 v2 : Value} (h : Box3 W b v0 v1 v2) (u : Value) : Box3 (W.setCell ⟨b, 2, none⟩ u) b v0 v1 u := by
  obtain ⟨h0, h1, h2, h3⟩ := h
  exact ⟨(World.cell?_setCell_other _ _ _ _ (fun e => by cases e)).trans h0, (World.cell?_setCell_other _ _ _ _ (fun e => by cases e)).trans h1, World.cell?_setCell_same _ _ _ h2, fun i => by rw [World.frozen?_setCell]; exact h3 i⟩
theorem Box3.lt {W : World} {b : Nat} {v0 v1 v2 : Value} (h : Box3 W b v0 v1 v2) : b < W.heap.size := World.block_lt_of_cell? W ⟨b, 0, none⟩ h.1
theorem Box3.set3 {W : World} {b : Nat} {v0 v1 v2 : Value} (h : Box3 W b v0 v1 v2) (u0 u1 u2 : Value) : Box3 (((W.setCell ⟨b, 0, none⟩ u0).setCell ⟨b, 1, none⟩ u1).setCell ⟨b, 2, none⟩ u2) b u0 u1 u2 := by
  obtain ⟨h0, h1, h2, h3⟩ := h
  have n01 : (⟨b, 0, none⟩ : Addr) ≠ ⟨b, 1, none⟩ := fun e => by cases e
  have n02 : (⟨b, 0, none⟩ : Addr) ≠ ⟨b, 2, none⟩ := fun e => by cases e
  have n12 : (⟨b, 1, none⟩ : Addr) ≠ ⟨b, 2, none⟩ := fun e => by cases e
  refine ⟨?_, ?_, ?_, fun i => by rw [World.frozen?_setCell, World.frozen?_setCell, World.frozen?_setCell]; exact h3 i⟩
  · rw [World.cell?_setCell_other _ _ _ _ n02.symm, World.cell?_setCell_other _ _ _ _ n01.symm]
    exact World.cell?_setCell_same _ _ _ h0
  · rw [World.cell?_setCell_other _ _ _ _ n12.symm]
    exact World.cell?_setCell_same _ _ _ ((World.cell?_setCell_other _ _ _ _ n01).trans h1)
  · exact World.cell?_setCell_same _ _ _ ((World.cell?_setCell_other _ _ _ _ n12).trans ((World.cell?_setCell_other _ _ _ _ n02).trans h2))
theorem Box3.new (w : World) (v0 v1 v2 : Value) (t : TypeId) : Box3 (w.alloc (.cells #[v0, v1, v2] t)) w.heap.size v0 v1 v2 := by
  have c := cells_at w [v0, v1, v2] t
  refine ⟨c 0 _ rfl, c 1 _ rfl, c 2 _ rfl, fun i => ?_⟩
  rw [World.frozen?, World.alloc_heap_new]
  simp
/-- what take holds between two rounds: v is the row of the items that came -/
def TakV (w : World) (l : List (Item × Value)) (v : Value) (W : World) : Prop :=
  Below w.heap.size w W ∧ Box3 W w.heap.size (.bool false) (.string ⟨#[]⟩) (.slice none 0 0) ∧ Box3 W (w.heap.size + 1) (.bool true) (.string ⟨#[]⟩) v ∧ OwnI (w.heap.size + 2) W v l ∧
  ∀ q, q ∈ l → ReadsIn W (fun g => w.heap.size + 2 ≤ g ∧ g < W.heap.size ∧ v.ownBlock ≠ some g) q.2 q.1.list
theorem TakV.below {w W W' : World} {l : List (Item × Value)} {v : Value} (h : TakV w l v W) (hb : Below W.heap.size W W') : TakV w l v W' := by
  obtain ⟨h1, h2, h3, h4, h5⟩ := h
  have hg : W.grownBy W' none := ⟨hb.os, hb.tape, hb.output, hb.size, fun i hi _ => hb.block i hi⟩
  refine ⟨h1.trans (hb.mono h1.size), h2.kept (hb.block _ h2.lt), h3.kept (hb.block _ h3.lt), h4.kept hg ?_, fun q hq => (h5 q hq).grown hg (fun r e => by cases e) (fun g hg => ⟨hg.1, Nat.lt_of_lt_of_le hg.2.1 hb.size, hg.2.2⟩)⟩
  cases v.ownBlock with
  | none => exact .inl rfl
  | some k => exact .inr (by simp)
theorem TakV.snoc {w W W' : World} {l : List (Item × Value)} {v v' : Value} {q : Item × Value} (h : TakV w l v W)
    (hrx : ReadsIn W (fun g => w.heap.size + 2 ≤ g ∧ g < W.heap.size ∧ v.ownBlock ≠ some g) q.2 q.1.list) (hown : OwnI (w.heap.size + 2) W' v' (l ++ [q]))
    (hsame : ∀ k, k < W.heap.size → v.ownBlock ≠ some k → W'.heap[k]? = W.heap[k]?) (hz : W.heap.size ≤ W'.heap.size) (hb : Below w.heap.size w W')
    (hv : v'.ownBlock = v.ownBlock ∨ ∃ k, v'.ownBlock = some k ∧ W.heap.size ≤ k) : TakV w (l ++ [q]) v' (W'.setCell ⟨w.heap.size + 1, 2, none⟩ v') := by
  obtain ⟨h1, h2, h3, h4, h5⟩ := h
  have hge := h4.ge
  have hA : ∀ {u : Value} {ys : List Item}, ReadsIn W (fun g => w.heap.size + 2 ≤ g ∧ g < W.heap.size ∧ v.ownBlock ≠ some g) u ys → ReadsIn (W'.setCell ⟨w.heap.size + 1, 2, none⟩ v') (fun g => w.heap.size + 2 ≤ g ∧ g < (W'.setCell ⟨w.heap.size + 1, 2, none⟩ v').heap.size ∧ v'.ownBlock ≠ some g) u ys := fun hr =>
    hr.kept (fun g u o hg hc => (World.cell?_setCell_other _ _ _ _ (fun e => by cases e; have := hg.1; omega)).trans ((World.cell?_of_block (a := ⟨g, o, none⟩) (hsame g hg.2.1 hg.2.2)).trans hc)) (fun g hg => ⟨hg.1, by rw [World.size_setCell]; exact Nat.lt_of_lt_of_le hg.2.1 hz, fun e => by
      rcases hv with hv | ⟨k, hk, hk2⟩
      · exact hg.2.2 (hv ▸ e)
      · rw [hk] at e; cases e; omega⟩)
  have b0 := h3.lt
  refine ⟨hb.setCell (p := ⟨w.heap.size + 1, 2, none⟩) (show w.heap.size ≤ w.heap.size + 1 by omega) _, ?_, ?_, ?_, fun q' hq => ?_⟩
  · exact (h2.kept (hsame _ (by omega) (fun e => by have := (hge _ e).1; omega))).kept (heap_set2 (by omega))
  · exact (h3.kept (hsame _ (by omega) (fun e => by have := (hge _ e).1; omega))).set2 _
  · refine hown.kept (grownBy_setCell2 _ _ _ _) ?_
    cases hq : v'.ownBlock with
    | none => exact .inl rfl
    | some k => exact .inr (fun e => by cases e; have := (hown.ge _ hq).1; omega)
  · rcases List.mem_append.1 hq with hq | hq
    · exact hA (h5 q' hq)
    · simp at hq; rw [hq]; exact hA hrx
/-- append of one item -/
theorem wpList_appendI {ops : Array Oper} {rest : List Oper} {o : Oper} {a : Act} {w : World} {Q : Exit → Act → World → Prop} (hgd : o.guard = none) (s x : Operand)
    (ho : o.op = .call { callee := .builtin .append, args := #[s, x], argTypes := #[56, 56] })
    (base : Nat) (v : Value) (l : List (Item × Value)) (hs : a.eval s = v) (hown : OwnI base w v l) (ad : Addr) (c : Nat) (q : Item × Value) (hq : ∃ p n c, q.2 = .slice p n c) (hx : a.eval x = .slice (some ad) 1 c)
    (hnews : ∀ j u, (itemCells [q])[j]? = some u → w.cell? (ad.add j) = some u) (h63 : l.length ≤ 1099511627776) (hbase : base ≤ w.heap.size)
    (hK : ∀ v' w', OwnI base w' v' (l ++ [q]) → w.grownBy w' v.ownBlock → (v'.ownBlock = v.ownBlock ∨ v'.ownBlock = some w.heap.size) → wpList Tryd.prog ops Q rest (a.put o.dst v') w') : wpList Tryd.prog ops Q (o :: rest) a w := by
  obtain ⟨v', w', hrun, r1, r2, r3⟩ := run_appendI hown ad c q hq hnews h63 hbase o.type
  refine wpList_plain hgd fun _ hK' => ?_
  unfold Oper.wp
  simp [execOp, ho, resolve, invoke, builtin, hs, hx, hrun, Result.andThen]
  exact hK' _ _ (hK v' w' r1 r2 r3)
/-- an item as the iterator's law has it -/
def elOf (q : Item × Value) : El := (q, true)
theorem itemsOf_elOf (l : List (Item × Value)) : itemsOf (l.map elOf) = l.map Prod.fst := by simp [itemsOf, elOf]

set_option maxRecDepth 100000 in
set_option maxHeartbeats 6400000 in
theorem take_any (N : Nat) : ∀ (s : List UInt8) (a n : Nat) (w : World), s.length ≤ 1099511627776 → a ≤ n → n ≤ s.length → n - a < N →
    Calls Tryd.prog 91 #[.string ⟨s.toArray⟩, .int .i64 a, .int .i64 n] w fun e w' => TakeIs (s.take n) a e w w' := by
  induction N with
  | zero => intro s a n w _ _ _ h; omega
  | succ N ih =>
    intro s a n w hlen ha hn hN
    have e1 : (⟨s.toArray⟩ : ByteArray).extract 0 n = ⟨(s.take n).toArray⟩ := by rw [ext_mk]; rfl
    have g1 : (0 : Int) ≤ n := by omega
    have g2 : (n : Int) ≤ s.length := by omega
    have hm := Lib.hid (fun wx => meas_any (s.take n) a wx (by rw [List.length_take]; omega))
    go_enter Tryd.func91, Tryd.ntmps91
    go_wp2_with fail
    refine (hm.out _).mono ?_
    rintro e w1 (⟨f, t, b, rfl, HM, k1, rfl⟩ | ⟨f, t, b, rfl, HM, k1, rfl⟩)
    · have hM := HM.out
      have hln : (s.take n).length = n := by rw [List.length_take]; omega
      rw [hln] at hM
      have f1 : (f : Int) ≤ t := by omega
      have f2 : (t : Int) ≤ s.length := by omega
      have f3 : (0 : Int) ≤ f := by omega
      have f4 : (0 : Int) ≤ t := by omega
      have e2 : (⟨s.toArray⟩ : ByteArray).extract f t = ⟨((s.take t).drop f).toArray⟩ := ext_mk s f t
      have hin : ((s.take n).drop f).take (t - f) = (s.take t).drop f := by
        rw [List.take_drop, List.take_take, show f + (t - f) = t from by omega, Nat.min_eq_left (by omega)]
      rw [hin] at hM
      have HC := Lib.hid hM.2.2.2.2
      have HS := Lib.hid (cut_sum HC.out)
      have hft : f ≤ t := hM.2.1
      have htn : t ≤ n := hM.2.2.2.1
      have hat : a < t := hM.2.2.1
      have Hln := Lib.hid hln
      clear hM hin hln HM
      cases b with
      | false =>
        go_wp2_with fail
        refine bodyPost_ret (results_item2 rfl _ _ w.heap.size (.bool false) (.string ⟨((s.take t).drop f).toArray⟩) (.slice none 0 0) rfl ?_ ?_ ?_) rfl ?_
        · simp [go_sem]
        · simp [go_sem]
        · simp [go_sem]
        have hB := (((Below.drewN (laid1 w (.cells #[.bool false, .string ⟨#[]⟩, .slice none 0 0] 58)) k1).setCell (p := ⟨w.heap.size, 0, none⟩) (Nat.le_refl _) (.bool false)).setCell (p := ⟨w.heap.size, 1, none⟩) (Nat.le_refl _) (.string ⟨((s.take t).drop f).toArray⟩)).setCell (p := ⟨w.heap.size, 2, none⟩) (Nat.le_refl _) (.slice none 0 0)
        exact ⟨hB, .inl ⟨Item.mk false ((s.take t).drop f) [], none, 0, t, rfl, Lib.hid ⟨hat, by rw [Hln.out]; exact htn, first_text HC.out⟩, Lib.hid (ReadsIn.nil _ _)⟩⟩
      | true =>
        have haf : a < f := by
          have h1 := HS.out.2 rfl
          rw [List.length_drop, List.length_drop, List.length_drop, List.length_take, Hln.out] at h1
          omega
        have hTt : (s.take t).length = t := by rw [List.length_take]; omega
        have HTt := Lib.hid hTt
        clear hTt
        have ih' := fun (k : Nat) (W : World) (h1 : f ≤ k) (h2 : k < t) => ih s k t W hlen (by omega) (by omega) (by omega)
        have HI := Lib.hid ih'
        clear ih ih'
        go_wp2_with fail
        go_loopw [9] (fun i wr => ∃ (k : Nat) (l : List (Item × Value)) (v : Value), i = .int .i64 k ∧ f ≤ k ∧ k ≤ t ∧ TakV w l v wr ∧ Hid (Rest ((s.take t).drop f) (l.map elOf) ((s.take t).drop k))) (fun i _ => t - (intOf i).toNat)
        case atStart =>
          refine ⟨f, [], .slice none 0 0, rfl, Nat.le_refl _, hft, ⟨?_, ?_, ?_, ?_, ?_⟩, Lib.hid (Rest.start _)⟩
          · exact (Below.drewN (laid1 w _) k1).alloc (by simp) _
          · exact ((Box3.new w (.bool false) (.string ⟨#[]⟩) (.slice none 0 0) 58).kept (W' := (w.alloc (.cells #[.bool false, .string ⟨#[]⟩, .slice none 0 0] 58)).drewN k1) (by simp)).kept (Below.heap_alloc _ _ _ (by simp))
          · have := Box3.new ((w.alloc (.cells #[.bool false, .string ⟨#[]⟩, .slice none 0 0] 58)).drewN k1) (.bool true) (.string ⟨#[]⟩) (.slice none 0 0) 58
            simpa using this
          · exact OwnI.nil _ _
          · intro q hq; cases hq
        case round =>
          obtain ⟨k, l, v, rfl, hfk, hkt, hV, HR⟩ := hrel
          have k1 : (k : Int) ≤ t := by omega
          by_cases hlt : k < t
          · have q1 : (k : Int) < t := by omega
            have hc := Lib.hid (HI.out k wr hfk hlt)
            go_wp2_with fail
            refine hc.out.mono ?_
            rintro e w2 ⟨hB2, hres⟩
            have HV := Lib.hid (hV.below hB2)
            have hV' := Lib.hid hV
            have hz0 := hV.2.2.1.lt
            have hz2 := hB2.size
            have hz3 : w.heap.size < w2.heap.size := by omega
            have hz4 : w.heap.size + 1 < w2.heap.size := by omega
            rcases hres with ⟨x, p, c, next, rfl, HX, HRd⟩ | ⟨rfl, HX⟩
            · obtain ⟨pv, cv, rfl⟩ := HV.out.2.2.2.1.form
              have c2 := HV.out.2.2.1.2.2.1
              have d2 := HV.out.2.2.1.2.2.2 2
              have hll : l.length ≤ s.length := by
                have h1 := HR.out.2.2
                have h2 := HTt.out
                simp only [List.length_map, List.length_drop, h2] at h1
                omega
              have hll2 : l.length ≤ 1099511627776 := by omega
              clear hB2 hV hc
              go_wp2_with (at_builtin; refine wpList_appendI rfl _ _ rfl (w.heap.size + 2) (.slice pv l.length cv) l rfl ((HV.out.2.2.2.1.alloc _).alloc _) ⟨w2.heap.size + 1, 0, none⟩ 1 (x, .slice p x.list.length c) ⟨p, _, c, rfl⟩ rfl ?c1 hll2 ?c2 ?_)
              case c1 =>
                exact cells_new_at (w := w2.alloc (.cells #[.bool x.isList, .string ⟨x.text.toArray⟩, .slice p x.list.length c] 58)) (by simp) (itemCells [(x, .slice p x.list.length c)]) 58
              case c2 => simp; omega
              rintro v' w3 hown hg3 hat3
              obtain ⟨W2, hW2⟩ : ∃ W2, ((w2.alloc (.cells #[.bool x.isList, .string ⟨x.text.toArray⟩, .slice p x.list.length c] 58)).alloc (.cells #[.bool x.isList, .string ⟨x.text.toArray⟩, .slice p x.list.length c] 58)) = W2 := ⟨_, rfl⟩
              rw [hW2] at hg3
              have hW2z : W2.heap.size = w2.heap.size + 2 := by rw [← hW2]; simp
              have hs3 : ∀ k, k < w2.heap.size → (Value.slice pv l.length cv).ownBlock ≠ some k → w3.heap[k]? = w2.heap[k]? := fun k hk hne => by
                rw [hg3.block k (by omega) (fun e => hne e.symm), ← hW2, Below.heap_alloc _ _ k (by simp; omega), Below.heap_alloc _ _ k hk]
              have hb2 : Below w.heap.size w W2 := by rw [← hW2]; exact ((HV.out.1.alloc HV.out.1.size _).alloc (by simp; have := HV.out.1.size; omega) _)
              have hge := HV.out.2.2.2.1.ge
              have hb3 : Below w.heap.size w w3 := hb2.grown hg3 hb2.size (fun k e => by have := (hge _ e).1; omega)
              have hV3 := TakV.snoc (q := (x, .slice p x.list.length c)) HV.out (HRd.out.mono (fun g hg => ⟨by omega, hg.2, fun e => by have := (hge _ e).2; have := (hV'.out.2.2.2.1.ge _ e).2; omega⟩)) hown hs3 (by have := hg3.size; omega) hb3 (by
                rcases hat3 with h | h
                · exact .inl h
                · exact .inr ⟨_, h, by omega⟩)
              have b3 := HV.out.2.2.1.kept (hs3 _ hz4 (fun e => by have := (hge _ e).1; omega))
              have c3 := b3.2.2.1
              have d3 := b3.2.2.2 2
              obtain ⟨pv', cv', rfl⟩ := hown.form
              rw [List.length_append, List.length_singleton] at hV3
              have HV3 := Lib.hid hV3
              have hRs : Hid (Rest ((s.take t).drop f) ((l ++ [(x, Value.slice p x.list.length c)]).map elOf) ((s.take t).drop next)) := Lib.hid (by
                rw [List.map_append]
                exact HR.out.step (fun e => by have := congrArg List.length e; simp [HTt.out] at this; omega) HX.out.2.2 (.slice p x.list.length c))
              have hn1 := HX.out.1
              have hn2 := HX.out.2.1
              rw [HTt.out] at hn2
              clear hs3 hb2 hb3 hge hV3 b3 hW2 hW2z hg3 hat3 hown
              go_wp2_with fail
              go_roundw
              case rel => exact ⟨next, _, _, rfl, by omega, hn2, HV3.out, hRs⟩
              case measure => simp [intOf]; omega
            · obtain ⟨q0, q1, q2, z⟩ := HV.out.2.1
              have z0 := z 0
              have z1 := z 1
              have z2 := z 2
              have Hn := Lib.hid (show first ((s.take n).drop a) = Option.none by
                rw [first_list HC.out, HR.out.bad (fun e => by have := congrArg List.length e; simp [HTt.out] at this; omega) HX.out]; rfl)
              clear hB2 hV hc z HX
              go_wp2_with fail
              have hb6 := (HV.out.2.1.set3 (.bool false) (.string ⟨#[]⟩) (.slice none 0 0)).kept (Below.heap_alloc _ (.cells #[.bool false, .string ⟨#[]⟩, .slice none 0 0] 58) _ (by simp; exact hz3))
              refine bodyPost_ret (results_item2 rfl _ _ w.heap.size (.bool false) (.string ⟨#[]⟩) (.slice none 0 0) rfl hb6.1 hb6.2.1 hb6.2.2.1) rfl ?_
              have hB := (((HV.out.1.setCell (p := ⟨w.heap.size, 0, none⟩) (Nat.le_refl _) (.bool false)).setCell (p := ⟨w.heap.size, 1, none⟩) (Nat.le_refl _) (.string ⟨#[]⟩)).setCell (p := ⟨w.heap.size, 2, none⟩) (Nat.le_refl _) (.slice none 0 0)).alloc (by simp; exact HV.out.1.size) (.cells #[.bool false, .string ⟨#[]⟩, .slice none 0 0] 58)
              exact ⟨hB, .inr ⟨rfl, Hn⟩⟩
          · obtain rfl : k = t := by omega
            have hnil : (s.take k).drop k = [] := List.drop_eq_nil_of_le (by rw [HTt.out]; omega)
            have hall : all ((s.take k).drop f) = some (l.map Prod.fst) := by
              have h1 := HR.out
              rw [hnil] at h1
              have := h1.done
              rw [itemsOf_elOf] at this
              exact this
            have Hall := Lib.hid (show first ((s.take n).drop a) = some (Item.mk true [] (l.map Prod.fst), (s.take n).drop k) by rw [first_list HC.out, hall]; rfl)
            obtain ⟨pv, cv, rfl⟩ := hV.2.2.2.1.form
            obtain ⟨q0, q1, q2, z⟩ := hV.2.1
            have z0 := z 0
            have z1 := z 1
            have z2 := z 2
            obtain ⟨p0, p1, p2, -⟩ := hV.2.2.1
            have n1 : ¬ w.heap.size + 1 = w.heap.size := by omega
            have HV := Lib.hid hV
            have q1 : ¬ ((k : Int) < k) := by omega
            clear hnil hall hV z
            go_wp2_with fail
            have hb6 := HV.out.2.1.set3 (.bool true) (.string ⟨#[]⟩) (.slice pv l.length cv)
            refine bodyPost_ret (results_item2 rfl _ _ w.heap.size (.bool true) (.string ⟨#[]⟩) (.slice pv l.length cv) rfl hb6.1 hb6.2.1 hb6.2.2.1) rfl ?_
            have hB := (((HV.out.1.setCell (p := ⟨w.heap.size, 0, none⟩) (Nat.le_refl _) (.bool true)).setCell (p := ⟨w.heap.size, 1, none⟩) (Nat.le_refl _) (.string ⟨#[]⟩)).setCell (p := ⟨w.heap.size, 2, none⟩) (Nat.le_refl _) (.slice pv l.length cv))
            have hR : ReadsIn wr (fun g => w.heap.size + 2 ≤ g ∧ g < wr.heap.size) (.slice pv l.length cv) (l.map Prod.fst) :=
              OwnI.readsIn HV.out.2.2.2.1 (fun k hk => HV.out.2.2.2.1.ge k hk) (fun q hq => (HV.out.2.2.2.2 q hq).mono (fun g hg => ⟨hg.1, hg.2.1⟩))
            have hln : (l.map Prod.fst).length = l.length := List.length_map ..
            rw [← hln] at hR hB ⊢
            refine ⟨hB, .inl ⟨Item.mk true [] (l.map Prod.fst), pv, cv, k, rfl, Lib.hid ⟨hat, by rw [Hln.out]; exact htn, Hall.out⟩, Lib.hid (hR.kept (fun g u o hg hc => ?_) (fun g hg => ⟨by omega, by simp only [World.size_setCell]; exact hg.2⟩))⟩⟩
            have h1 := hg.1
            rw [World.cell?_setCell_other _ _ _ _ (fun e => by cases e; omega), World.cell?_setCell_other _ _ _ _ (fun e => by cases e; omega), World.cell?_setCell_other _ _ _ _ (fun e => by cases e; omega)]
            exact hc
    · go_wp2_with fail
      refine bodyPost_ret (results_item2 rfl _ _ w.heap.size (.bool false) (.string ⟨#[]⟩) (.slice none 0 0) rfl ?_ ?_ ?_) rfl ?_
      · simp [go_sem]
      · simp [go_sem]
      · simp [go_sem]
      have hB := (((Below.drewN (laid1 w (.cells #[.bool false, .string ⟨#[]⟩, .slice none 0 0] 58)) k1).setCell (p := ⟨w.heap.size, 0, none⟩) (Nat.le_refl _) (.bool false)).setCell (p := ⟨w.heap.size, 1, none⟩) (Nat.le_refl _) (.string ⟨#[]⟩)).setCell (p := ⟨w.heap.size, 2, none⟩) (Nat.le_refl _) (.slice none 0 0)
      exact ⟨hB, .inr ⟨rfl, Lib.hid (first_none HM.out)⟩⟩
end Go.Proofs.YthicdhnjincflaaDoor
