/- Contract of rlp.all: the items of bytes. -/
import Derived.Test.YtjccllfgendpdaaDoorAllA
import Derived.Outline
namespace Go.Proofs.YtjccllfgendpdaaDoor
open Go.RowKit Go.Shelf Go.Lib
attribute [local go_sem] Oper.semAt_some

set_option maxRecDepth 100000 in
set_option maxHeartbeats 6400000 in
theorem all_step' (s : List UInt8) (w : World) (hs : s.length ≤ 1099511627776)
    (hall : ∀ (t : List UInt8) (W : World), t.length < s.length → Calls Tryd.prog 42 #[.string ⟨t.toArray⟩] W fun e W' => AllIs t e W W') :
    Calls Tryd.prog 42 #[.string ⟨s.toArray⟩] w fun e w' => AllIs s e w w' := by
  refine (callsIn_wide (n := 9)).1 ?_
  refine callsIn_of_wp_marks Tryd.func42 rfl trivial ?_ rfl
  simp only [Tryd.ntmps42, List.size_toArray, List.length_cons, List.length_nil, Nat.reduceAdd, Nat.reduceSub, Array.replicate_succ, Array.replicate_zero, List.push_toArray, List.append_toArray, List.nil_append, List.cons_append]
  gi_wp2
  refine wpIn_scope_straight ?_
  gi_wp2
  refine wpIn_label ?_
  gi_wp2_with (refine ⟨trivial, ?_⟩; gi_at_call 63; refine (items_any Fence.wide _ trivial rfl _ _).mono ?_; rintro e w' ⟨rfl, rfl⟩)
  obtain ⟨W0, hW0⟩ : ∃ W0, (((w.alloc (.cells #[.slice none 0 0] 34)).alloc (.cells #[.bool true] 4)).alloc (.cells #[.string ⟨s.toArray⟩] 9)) = W0 := ⟨_, rfl⟩
  have hV0 : AllV w [] (.slice none 0 0) W0 := by
    rw [← hW0]
    have x0 := Boxed.new w 34 (.slice none 0 0)
    have x1 := Boxed.new (w.alloc (.cells #[.slice none 0 0] 34)) 4 (.bool true)
    have x2 := Boxed.new ((w.alloc (.cells #[.slice none 0 0] 34)).alloc (.cells #[.bool true] 4)) 9 (.string ⟨s.toArray⟩)
    simp only [World.size_alloc] at x1 x2
    exact ⟨by simp, (x0.alloc _).alloc _, OwnI.nil _ _, x1.alloc _, ⟨_, x2⟩, (((Below.refl _ w).alloc (Nat.le_refl _) _).alloc (by simp) _).alloc (by simp; omega) _, by simp⟩
  have hbox : Boxed W0 (w.heap.size + 2) 9 (.string ⟨s.toArray⟩) := by
    rw [← hW0]
    have x2 := Boxed.new ((w.alloc (.cells #[.slice none 0 0] 34)).alloc (.cells #[.bool true] 4)) 9 (.string ⟨s.toArray⟩)
    simpa only [World.size_alloc] using x2
  have hs0 : W0.heap.size = w.heap.size + 3 := by rw [← hW0]; simp
  rw [hW0]
  clear hW0
  have hS0 : w.heap.size + 3 ≤ W0.heap.size := by omega
  have Hs0 := Lib.hid hs0
  clear hs0
  refine wpIn_rangeFunc_X rfl (by omega) (gf := 76) (lb := #[.pointer (some ⟨w.heap.size + 1 + 1, 0, none⟩)]) rfl trivial (enters_of Tryd.func76 (by kernel_rfl) rfl)
    (encs := encEl) (Step := StepI (w.heap.size + 2)) (Good := GoodI s.length) (Kp := SameBox (w.heap.size + 2)) (S := doneI s) (Sp := stopI s) (w0 := W0)
    (fun l J Jx W hW _ _ hY h0 => items_body _ (by omega) l (w.heap.size + 2) s hs hall J Jx hY W ((hW.block _ (by omega)).trans hbox) h0)
    (fun h k => k.trans h) (fun W l o o' hl _ _ _ => World.putObj_heap_other (by omega)) (Below.refl _ _) (fun _ => rfl)
    (fun A B k o hst hk hA _ => (hst.1.block k (Array.getElem?_eq_some_iff.1 hA).1 (fun e => by cases e; omega)).trans hA)
    (AllI w) (AllX w)
    (fun pre x a' W => ∃ xb, a' = { tmps := #[.string ⟨s.toArray⟩, undef, .slice none 0 0, .bool false, .pointer (some ⟨w.heap.size, 0, none⟩), .pointer (some ⟨w.heap.size + 1, 0, none⟩), .pointer (some ⟨xb, 0, none⟩), .bool x.2, .string ⟨s.toArray⟩,
      .func (.func 76) #[] #[.pointer (some ⟨w.heap.size + 1 + 1, 0, none⟩)], .agg #[.bool x.1.1.isList, .string ⟨x.1.1.text.toArray⟩, x.1.2], .bool x.2, undef, undef, undef, undef, undef, undef, undef, undef, undef, undef], defers := [] } ∧ AllB w pre x xb W ∧ pre.length < s.length)
    (AllI.own w _ hS0) (fun c => AllX.own w c _ hS0) (fun pre x a' _ W W' row ⟨xb, h1, h2, h3⟩ hg hr => ⟨xb, h1, AllB.own w pre x xb _ hS0 () W W' row h2 hg hr, h3⟩)
    (fun pre A B ⟨v, h⟩ hst => ⟨v, h.step hst⟩) (fun c pre A B h hst => h.step hst) ⟨_, hV0⟩ ?assign ?body ?done ?stop
  case assign =>
    rintro l pre ⟨⟨xi, xv⟩, xo⟩ Wa W K ⟨v, hV⟩ hst ⟨hlt, ⟨p, m, c, hxv⟩, hgood⟩ hK
    dsimp only at hxv hgood
    subst hxv
    have hV2 := hV.step hst
    simp only [encEl]
    gi_wp2
    refine hK _ _ ((KeepsOthers.alloc _ _).from _) (Below.heap_alloc _ _ _ (by obtain ⟨t, ht⟩ := hV2.2.2.2.2.1; exact ht.lt)) ⟨W.heap.size, rfl, ⟨v, ?_, ?_, World.alloc_heap_new _ _, ⟨p, m, c, rfl⟩, fun hx => ?_⟩, hlt⟩
    · exact hV2.row (World.grownBy_alloc W _ none) (fun r e => by cases e)
    · obtain ⟨t, ht⟩ := hV2.2.2.2.2.1
      exact ht.lt
    · refine (hgood hx).grown (World.grownBy_alloc W _ none) (fun r e => by cases e) (fun g hg => ?_)
      obtain ⟨t, ht⟩ := hV.2.2.2.2.1
      have h1 := ht.lt
      refine ⟨by omega, by simp; omega, fun e => ?_⟩
      have := (hV.2.2.1.ge g e).2
      omega
  case body =>
    rintro l pre ⟨⟨xi, xv⟩, xo⟩ a' W hl ⟨r, hr⟩ ⟨xb, rfl, ⟨v, hV, hxb, hx, ⟨p, m, c, hxv⟩, hread⟩, hlx0⟩
    dsimp only at hxv hread hx
    subst hxv
    have HV := Lib.hid hV
    obtain ⟨v1, v2, v3, v4, v5, v6, v7⟩ := hV
    cases xo with
    | false =>
      have c4 := v4.cell
      have f4 := v4.frozen
      clear v1 v2 v3 v4 v5 v6 v7 hread hx
      gi_wp2
      refine ⟨(KeepsOthers.setCell _ _ _).from _, rfl, ⟨((xi, .slice p m c), false), by simp, rfl⟩, ⟨v, HV.out.2.2.1.form.imp fun p h => ⟨_, h.choose, h.choose_spec⟩, HV.out.2.1.other (by omega) _⟩, HV.out.2.2.2.1.set _, HV.out.2.2.2.2.2.1.setCell (p := ⟨_, 0, none⟩) (by show w.heap.size ≤ w.heap.size + 1; omega) _⟩
    | true =>
      obtain ⟨pv, cv, hvv⟩ := v3.form
      rw [List.length_map] at hvv
      subst hvv
      have c0 := v2.cell
      have f0 := v2.frozen
      have q0 : W.cell? ⟨xb, 0, none⟩ = some (.bool xi.isList) := by rw [World.cell?, hx]; rfl
      have q1 : W.cell? ⟨xb, 1, none⟩ = some (.string ⟨xi.text.toArray⟩) := by rw [World.cell?, hx]; rfl
      have q2 : W.cell? ⟨xb, 2, none⟩ = some (.slice p m c) := by rw [World.cell?, hx]; rfl
      clear v1 v2 v4 v5 v6 v7 hx
      gi_wp2
      refine wpIn_round_L (fun L w' => L.getD 4 true = false → (w'.cell? ⟨w.heap.size, 0, none⟩ = some (.slice pv pre.length cv) ∧ w'.cell? ⟨xb, 0, none⟩ = some (.bool xi.isList) ∧ w'.cell? ⟨xb, 1, none⟩ = some (.string ⟨xi.text.toArray⟩) ∧ w'.cell? ⟨xb, 2, none⟩ = some (.slice p m c)))
        (by kernel_rfl) (by kernel_rfl) (fun ⟨_, _, h⟩ => h.elim) ?_
      refine wpAnyL_take (i := 0) (v := .slice pv pre.length cv) (fuel := 7) rfl (by kernel_rfl) (by kernel_rfl) (by kernel_rfl) (by kernel_rfl) (fun _ _ _ h => h) (fun L w' => by rw [getD_set_ne true (by omega)]) (fun _ => ⟨c0, q0, q1, q2⟩) (.inl ⟨by rfl, ?_⟩) ?_
      · rintro w' ⟨L, hcl, h0, hS⟩
        obtain ⟨z0, z1, z2, z3⟩ := hS (closedB_before hcl (i := 0) (by kernel_rfl) h0)
        clear hS hcl h0
        go_simp
      refine wpAnyL_take (i := 1) (v := .agg #[.bool xi.isList, .string ⟨xi.text.toArray⟩, .slice p m c]) (fuel := 6) rfl (by kernel_rfl) (by kernel_rfl) (by kernel_rfl) (by kernel_rfl) (fun _ _ _ h => h) (fun L w' => by rw [getD_set_ne true (by omega)]) (fun _ => ⟨c0, q0, q1, q2⟩) (.inl ⟨by rfl, ?_⟩) ?_
      · rintro w' ⟨L, hcl, h0, hS⟩
        obtain ⟨z0, z1, z2, z3⟩ := hS (closedB_before hcl (i := 1) (by kernel_rfl) h0)
        clear hS hcl h0
        go_simp
      refine wpAnyL_take (i := 2) (v := .int .i64 pre.length) (fuel := 5) rfl (by kernel_rfl) (by kernel_rfl) (by kernel_rfl) (by kernel_rfl) (fun _ _ _ h => h) (fun L w' => by rw [getD_set_ne true (by omega)]) (fun _ => ⟨c0, q0, q1, q2⟩) (.inl ⟨by rfl, ?_⟩) ?_
      · intro w' _
        go_simp
      simp only [Act.put, List.setIfInBounds_toArray]
      refine wpAnyL_one (i := 3) (fuel := 4) (by kernel_rfl) rfl (fun K hK => ?_)
      go_simp
      refine hK.out _ _ (fun _ => ⟨cell_ad _ c0, cell_ad _ q0, cell_ad _ q1, cell_ad _ q2⟩) (fun _ => ?_)
      clear hK K
      have hlx : pre.length ≤ 1099511627776 := by omega
      obtain ⟨W1, hW1⟩ : ∃ W1, (W.alloc (.cells #[.bool false, .string ⟨#[]⟩, .slice none 0 0] 36)).drew = W1 := ⟨_, rfl⟩
      have hown1 : OwnI (w.heap.size + 3) W1 (.slice pv pre.length cv) (pre.map Prod.fst) := by rw [← hW1]; exact v3.alloc _
      have hn1 : ∀ j u, (itemCells [(Item.none, Value.slice none 0 0)])[j]? = some u → W1.cell? ((⟨W.heap.size, 0, none⟩ : Addr).add j) = some u := by rw [← hW1]; exact cells_new W _ _
      have hz1 : W1.heap.size = W.heap.size + 1 := by rw [← hW1]; simp
      have hg1 : ∀ k, k < W.heap.size → W1.heap[k]? = W.heap[k]? := fun k hk => by rw [← hW1]; exact Below.heap_alloc W _ k hk
      have hb1 : Below w.heap.size w W1 := by rw [← hW1]; exact (HV.out.2.2.2.2.2.1.alloc HV.out.2.2.2.2.2.1.size _).drew
      rw [hW1]
      have hbs : w.heap.size + 3 ≤ W1.heap.size := by have := HV.out.2.2.2.2.1.choose_spec.lt; omega
      have Hz1 := Lib.hid hz1
      have Hg1 := Lib.hid hg1
      have Hn1 := Lib.hid hn1
      clear hW1 hz1 hg1 hn1
      refine wpAnyL_one (i := 4) (fuel := 3) (by kernel_rfl) rfl (fun K hK => ?_)
      refine step_appendI (by rfl) (.tmp 14) (.tmp 17) (by rfl) (w.heap.size + 3) (.slice pv pre.length cv) (pre.map Prod.fst) (by rfl) hown1 ⟨W.heap.size, 0, none⟩ 1 (Item.none, .slice none 0 0) ⟨none, 0, 0, rfl⟩ (by rfl) Hn1.out (by rw [List.length_map]; exact hlx) hbs ?_
      intro v' w2 hown2 hg2 hat2
      refine hK.out _ _ (fun h => absurd_false (by kernel_rfl) h) (fun _ => ?_)
      clear hK K
      obtain ⟨g, c', hv', hgB, hgz⟩ := hown2.at_ (by simp)
      rw [List.length_append, List.length_map, List.length_singleton] at hv'
      subst hv'
      simp only [Act.put, List.setIfInBounds_toArray]
      have g1 : (0 : Int) ≤ pre.length := by omega
      have g3 : ¬ ((pre.length : Int) + 1 ≤ (pre.length : Int)) := by omega
      have g2 : (pre.length : Int) < ((pre.length + 1 : Nat) : Int) := by omega
      refine wpAnyL_take (i := 5) (v := .pointer (some ⟨g, pre.length * 3, none⟩)) (fuel := 2) rfl (by kernel_rfl) (by kernel_rfl) (by kernel_rfl) (by kernel_rfl) (fun _ _ _ h => h) (fun L w' => by rw [getD_set_ne true (by omega)]) (fun h => absurd_false (by kernel_rfl) h) (.inl ⟨by rfl, ?_⟩) ?_
      · intro w' _
        go_simp
      simp only [Act.put]
      have HT : (pre.map Prod.fst).length = pre.length := List.length_map ..
      have hz2 := hg2.size
      have hc2 : ∀ i u, i < 3 → [Value.bool false, .string ⟨#[]⟩, .slice none 0 0][i]? = some u → w2.cell? ⟨g, pre.length * 3 + i, none⟩ = some u := fun i u hi hu => by
        have hown2' : w2.ownsRow (w.heap.size + 3) 36 3 (.slice (some ⟨g, 0, none⟩) (pre.length + 1) c') (pre.length + 1) (itemCells (pre.map Prod.fst ++ [(Item.none, Value.slice none 0 0)])) := by
          have := hown2
          unfold OwnI at this
          rw [List.length_append, HT, List.length_singleton] at this
          exact this
        rw [World.ownsRow.cellAt hown2' _ (by omega), itemCells_at _ pre.length i (Item.none, .slice none 0 0) (by rw [List.getElem?_append_right (by omega), HT]; simp) hi]
        exact hu
      have hfz : ∀ i, w2.frozen? ⟨g, i, none⟩ = false := fun i => by
        have hown2' : w2.ownsRow (w.heap.size + 3) 36 3 (.slice (some ⟨g, 0, none⟩) (pre.length + 1) c') (pre.length + 1) (itemCells (pre.map Prod.fst ++ [(Item.none, Value.slice none 0 0)])) := by
          have := hown2
          unfold OwnI at this
          rw [List.length_append, HT, List.length_singleton] at this
          exact this
        exact World.ownsRow.frozenAt hown2' i
      have r0 := hc2 0 _ (by omega) rfl
      have r1 := hc2 1 _ (by omega) rfl
      have r2 := hc2 2 _ (by omega) rfl
      rw [Nat.add_zero] at r0
      have z0 := hfz (pre.length * 3)
      have z1 := hfz (pre.length * 3 + 1)
      have z2 := hfz (pre.length * 3 + 2)
      have hvb : ∀ k, (Value.slice pv pre.length cv).ownBlock = some k → w.heap.size + 3 ≤ k := fun k hk => (v3.ge k hk).1
      have hlb : w2.heap[w.heap.size]? = some (.cells #[.slice pv pre.length cv] 34 (0, 0)) := by
        have hlt := HV.out.2.1.lt
        rw [hg2.block w.heap.size (by omega) (fun e => by have := hvb _ e.symm; omega), Hg1.out _ hlt]
        exact HV.out.2.1
      have hlB : Boxed w2 w.heap.size 34 (.slice pv pre.length cv) := hlb
      have d0 := hlB.cell
      have e0 := hlB.frozen
      have n1 : ¬ g = w.heap.size := by omega
      have n2 : ¬ w.heap.size = g := by omega
      clear hc2 hfz
      have hkg : ∀ k, k < W.heap.size → (Value.slice pv pre.length cv).ownBlock ≠ some k → k ≠ g := fun k hk hne e => by
        subst e
        rcases hat2 with hat2 | hat2
        · exact hne hat2.symm
        · have h1 := Hz1.out
          have h2 : some k = some W1.heap.size := hat2
          cases h2
          omega
      have hsame2 : ∀ k, k < W.heap.size → (Value.slice pv pre.length cv).ownBlock ≠ some k → w2.heap[k]? = W.heap[k]? := fun k hk hne =>
        (hg2.block k (by have := Hz1.out; omega) (fun e => hne e.symm)).trans (Hg1.out k hk)
      have hvn : (Value.slice (some ⟨g, 0, none⟩) (pre.length + 1) c').ownBlock = (Value.slice pv pre.length cv).ownBlock ∨ ∃ k, (Value.slice (some ⟨g, 0, none⟩) (pre.length + 1) c').ownBlock = some k ∧ W.heap.size ≤ k := by
        rcases hat2 with hat2 | hat2
        · exact .inl hat2
        · exact .inr ⟨_, hat2, by have := Hz1.out; omega⟩
      have hb2 : Below w.heap.size w w2 := hb1.grown hg2 hb1.size (fun k e => by have := hvb _ e; omega)
      have hwg : w.heap.size ≤ g := by omega
      have Hkg := Lib.hid hkg
      have Hsame := Lib.hid hsame2
      have Hvn := Lib.hid hvn
      clear hkg hsame2 hvn hvb hlb
      refine wpAnyL_two (i := 6) (j := 7) (fuel := 1) (by kernel_rfl) rfl rfl (fun K hK => ?_) (fun K hK => ?_)
      · go_simp
        refine hK.out _ _ (fun h => absurd_false (by kernel_rfl) h) (fun _ => ?_)
        clear hK K
        refine wpAnyL_one (i := 7) (fuel := 0) (by kernel_rfl) rfl (fun K hK => ?_)
        go_simp
        refine hK.out _ _ (fun h => absurd_false (by kernel_rfl) h) (fun _ => ?_)
        clear hK K
        refine wpAnyL_done (by kernel_rfl) ?_ 0
        have hL := OwnI.last hown2 (xi, .slice p m c)
        rw [HT] at hL
        show KeepsFrom _ _ _ ∧ SameBox _ _ _ ∧ AllI _ _ _
        refine AllV.snoc HV.out hS0 rfl (hread trivial) ?_ (OwnI.kept hL.1 (grownBy_setCell' _ _ _) (.inr (fun e => by cases e; exact n1 rfl))) ?_ Hvn.out ?_ ?_
        · exact (boxed_far (boxed_far (boxed_far hlB n2 _) n2 _) n2 _).set _
        · simp; have := Hz1.out; omega
        · intro k hk h1 h2
          have h3 := Hkg.out k hk h2
          exact (heap_set2 h1).trans ((heap_set2 h3).trans ((heap_set2 h3).trans ((heap_set2 h3).trans (Hsame.out k hk h2))))
        · exact (((hb2.setCell (p := ⟨g, _, none⟩) hwg _).setCell (p := ⟨g, _, none⟩) hwg _).setCell (p := ⟨g, _, none⟩) hwg _).setCell (p := ⟨w.heap.size, 0, none⟩) (Nat.le_refl _) _
      · go_simp
        refine hK.out _ _ (fun h => absurd_false (by kernel_rfl) h) (fun _ => ?_)
        clear hK K
        refine wpAnyL_one (i := 6) (fuel := 0) (by kernel_rfl) rfl (fun K hK => ?_)
        go_simp
        refine hK.out _ _ (fun h => absurd_false (by kernel_rfl) h) (fun _ => ?_)
        clear hK K
        refine wpAnyL_done (by kernel_rfl) ?_ 0
        have hL := OwnI.last (OwnI.kept hown2 (grownBy_setCell' w2 w.heap.size (.slice (some ⟨g, 0, none⟩) (pre.length + 1) c')) (.inr (fun e => by cases e; exact n1 rfl))) (xi, .slice p m c)
        rw [HT] at hL
        show KeepsFrom _ _ _ ∧ SameBox _ _ _ ∧ AllI _ _ _
        refine AllV.snoc HV.out hS0 rfl (hread trivial) ?_ hL.1 ?_ Hvn.out ?_ ?_
        · exact boxed_far (boxed_far (boxed_far (hlB.set _) n2 _) n2 _) n2 _
        · simp; have := Hz1.out; omega
        · intro k hk h1 h2
          have h3 := Hkg.out k hk h2
          exact (heap_set2 h3).trans ((heap_set2 h3).trans ((heap_set2 h3).trans ((heap_set2 h1).trans (Hsame.out k hk h2))))
        · exact (((hb2.setCell (p := ⟨w.heap.size, 0, none⟩) (Nat.le_refl _) _).setCell (p := ⟨g, _, none⟩) hwg _).setCell (p := ⟨g, _, none⟩) hwg _).setCell (p := ⟨g, _, none⟩) hwg _
  case done =>
    rintro D xs W hD hS ⟨v, hV⟩ hK
    obtain ⟨v1, v2, v3, v4, v5, v6, v7⟩ := hV
    obtain ⟨pv, cv, hvv⟩ := v3.form
    rw [List.length_map] at hvv
    subst hvv
    have hitems := hS v1
    have c0 := v2.cell
    have c1 := v4.cell
    have HI := Lib.hid hitems
    have H3 := Lib.hid v3
    have H7 := Lib.hid v7
    clear v1 v2 v4 v5 v3 v7 hS hitems
    gi_wp2
    refine wpIn_wide.2 ?_
    go_quiet (fail)
    gi_wp2
    have hK' : (W.drewN nq).heap[D]? = some (.deferred (some [])) := by rw [World.heap_drewN]; exact hK
    have hDz : D < W.heap.size := (Array.getElem?_eq_some_iff.1 hK).1
    have hg := grownBy_putObj' (W.drewN nq) D (.deferred none)
    have hR : ReadsIn ((W.drewN nq).putObj D (.deferred none)) (fun g => w.heap.size ≤ g ∧ g < ((W.drewN nq).putObj D (.deferred none)).heap.size) (.slice pv xs.length cv) (itemsOf xs) := by
      have h1 : ReadsIn W (fun g => w.heap.size ≤ g ∧ g < W.heap.size) (.slice pv xs.length cv) ((xs.map Prod.fst).map Prod.fst) :=
        OwnI.readsIn H3.out (fun k hk => by have := H3.out.ge k hk; exact ⟨by omega, this.2⟩) (fun q hq => by
          obtain ⟨x, hx, rfl⟩ := List.mem_map.1 hq
          exact (H7.out x hx).mono (fun g hg => ⟨by omega, hg.2.1⟩))
      have e1 : (xs.map Prod.fst).map Prod.fst = itemsOf xs := by simp [itemsOf]
      rw [e1] at h1
      have h2 : ReadsIn (W.drewN nq) (fun g => w.heap.size ≤ g ∧ g < W.heap.size) (.slice pv xs.length cv) (itemsOf xs) := h1.kept (fun _ _ _ _ hc => hc) (fun _ hg => hg)
      refine h2.grown hg (fun r e _ => by cases e; exact ⟨_, hK', rfl⟩) (fun g hg => ⟨hg.1, by simp; exact hg.2⟩)
    have hln : (itemsOf xs).length = xs.length := by simp [itemsOf]
    rw [← hln] at hR
    refine ⟨by simp, .inl ⟨_, _, rfl, run_takeDeferred hK', ?_⟩⟩
    refine ⟨_, results_tmp2 rfl _ _ _, (Below.drewN v6 _).trans (belowK_b (w := w) (Nat.le_refl _) (W.drewN nq) D _ _ (by omega) hK' rfl rfl), .inl ⟨itemsOf xs, pv, cv, ?_, HI, Lib.hid hR⟩⟩
    rw [hln]
    rfl
  case stop =>
    rintro D c pre W hD hSp ⟨rfl, hq, ⟨v, ⟨p, m, cp, rfl⟩, hl⟩, hg, hB⟩ hK
    have hnone := hSp hq
    have c0 := hl.cell
    have c1 := hg.cell
    have HI := Lib.hid hnone
    clear hnone hSp hq hl hg
    gi_wp2
    refine wpIn_wide.2 ?_
    go_quiet (fail)
    gi_wp2
    have hK' : (W.drewN nq).heap[D]? = some (.deferred (some [])) := by rw [World.heap_drewN]; exact hK
    refine ⟨by simp, .inl ⟨_, _, rfl, run_takeDeferred hK', ?_⟩⟩
    exact ⟨_, results_tmp2 rfl _ _ _, (Below.drewN hB _).trans (belowK_b (w := w) (Nat.le_refl _) (W.drewN nq) D _ _ (by omega) hK' rfl rfl), .inr ⟨p, m, cp, rfl, HI⟩⟩

theorem all_any (N : Nat) : ∀ (s : List UInt8) (w : World), s.length ≤ N → s.length ≤ 1099511627776 → Calls Tryd.prog 42 #[.string ⟨s.toArray⟩] w fun e w' => AllIs s e w w' := by
  induction N with
  | zero => exact fun s w hN hs => all_step' s w hs (fun t W ht => absurd ht (by omega))
  | succ N ih => exact fun s w hN hs => all_step' s w hs (fun t W ht => ih t W (by omega) (by omega))
end Go.Proofs.YtjccllfgendpdaaDoor
