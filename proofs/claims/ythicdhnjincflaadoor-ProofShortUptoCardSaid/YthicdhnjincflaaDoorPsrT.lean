/- The walk of ProofShort. -/
import Derived.Test.YthicdhnjincflaaDoorPonA
namespace Go.Proofs.YthicdhnjincflaaDoor
open Go.RowKit Go.Shelf Go.Lib
attribute [local go_sem] Oper.semAt_some

/-- 'make([]string, 0, n)', as one step of a region that draws its order -/
theorem step_makeT {ops : Array Oper} {o : Oper} {a : Act} {w : World} {K : Act → World → Prop} {Q : Exit → Act → World → Prop} {E : Prop} (hw : Region.wanted o (yielded ops a.tmps) = true) (l c : Operand) (t : TypeId)
    (ho : o.op = Op.makeSlice t l c) (base : Nat) (ht : Tryd.prog.underlying t = some (.slice 9)) (kl kc : IntKind) (C : Int) (n : Nat) (hl : a.eval l = .int kl 0) (hc : a.eval c = .int kc C) (hC : C = (n : Int))
    (hn : n ≤ 1099511627776) (hbase : base ≤ w.heap.size)
    (hK : ∀ w', OwnS base w' (.slice (some ⟨w.heap.size, 0, none⟩) 0 n) [] → w.grownBy w' none → K (a.put o.dst (.slice (some ⟨w.heap.size, 0, none⟩) 0 n)) w') :
    if Region.wanted o (yielded ops a.tmps) = true then Oper.wp Tryd.prog o a w K Q else E := by
  rw [if_pos hw]
  subst hC
  obtain ⟨i0, hi0, hz0, hz1, hz2⟩ := info_parts infoStr
  obtain ⟨w', hrun, r1, r2⟩ := run_make_own (P := Tryd.prog) w base t 9 i0 _ 1 ht hi0 hz0 hz1 kl kc n (by rw [hz2]; omega) (by unfold maxLen; omega) hbase
  unfold Oper.wp
  simp [execOp, ho, hl, hc, hrun, Result.andThen]
  exact hK w' r1 r2
/-- 'append(l, m..)' of two rows of the call's own, as one step of a region that draws its order -/
theorem step_appendO {ops : Array Oper} {o : Oper} {a : Act} {w : World} {K : Act → World → Prop} {Q : Exit → Act → World → Prop} {E : Prop} (hw : Region.wanted o (yielded ops a.tmps) = true) (s x : Operand) (t : TypeId)
    (ho : o.op = .call { callee := .builtin .append, args := #[s, x], argTypes := #[t, t] })
    (base : Nat) (ht : Tryd.prog.underlying t = some (.slice 9))
    (v : Value) (l : List ByteArray) (hs : a.eval s = v) (hown : OwnS base w v l)
    (b2 : Nat) (vx : Value) (news : List ByteArray) (hx : a.eval x = vx) (hox : OwnS b2 w vx news) (hne : news ≠ [])
    (h63 : l.length + news.length ≤ 1099511627776) (hbase : base ≤ w.heap.size)
    (hK : ∀ v' w', OwnS base w' v' (l ++ news) → w.grownBy w' v.ownBlock → K (a.put o.dst v') w') :
    if Region.wanted o (yielded ops a.tmps) = true then Oper.wp Tryd.prog o a w K Q else E := by
  rcases hox.forms with ⟨rfl, rfl⟩ | ⟨g, c, rfl⟩
  · exact absurd rfl hne
  · refine step_appendTs hw s x t ho base ht infoStr v l hs hown ⟨g, 0, none⟩ news.length c news hx rfl (fun j y hy => ?_) h63 hbase (fun v' w' h1 h2 _ => hK v' w' h1 h2)
    obtain ⟨p, c', hv, _, h4⟩ := hox.strs
    cases hv
    rcases h4 with h4 | ⟨bk, o, h5, _, h6⟩
    · rw [h4] at hy; cases hy
    · cases h5
      rw [addr_add]
      have := h6 j y hy
      simpa using this
theorem region_gate {P : Program} {n : Nat} {ops : Array Oper} {Q : Exit → Act → World → Prop} {a : Act} {w : World} (h : Hid (Code.wp P (.region n ops true) Q a w)) : Code.wp P (.region n ops true) Q a w := h.out
set_option maxRecDepth 100000 in
set_option maxHeartbeats 12800000 in
theorem short_any (s0 s1 : ByteArray) (v2 : Value) (l2 : List ByteArray) (s3 : ByteArray) (w : World) (_ : s0.size ≤ 1048576) (_ : s1.size ≤ 1048576) (hs2 : Strs w v2 l2) (g2 : weightS l2 ≤ 1048576) (g3 : s3.size ≤ 1048576) (hK : KecT w) :
    Calls Tryd.prog 6 #[.string s0, .string s1, v2, .string s3] w fun e w' => e = .returned (.bool true) ∧ Below w.heap.size w w' := by
  obtain ⟨root, rfl, -⟩ := bytes_list s0
  obtain ⟨key, rfl, -⟩ := bytes_list s1
  obtain ⟨more, rfl, hmo⟩ := bytes_list s3
  have hn2 := weightS_len l2
  obtain ⟨xs, rfl, hx⟩ := bytes_lists l2
  obtain ⟨A, hA⟩ : ∃ A, someT xs = A := ⟨_, rfl⟩
  have HS2 : Hid (∀ W, Below w.heap.size w W → Calls Tryd.prog 17 #[v2] W fun e w' => ∃ p c, e = .returned (.slice p A.length c) ∧ OwnS W.heap.size w' (.slice p A.length c) (A.map bt) ∧ Below W.heap.size W w') := Lib.hid fun W hb => by
    rw [← hA]
    exact some_any _ _ W (hs2.below hb) (by rw [hx]; omega)
  have hlA : A.length ≤ 40 := by rw [← hA]; exact someT_len _
  obtain ⟨n, hn⟩ : ∃ n, A.length = n := ⟨_, rfl⟩
  obtain ⟨xa, ea, hra⟩ : ∃ x e, checkP keccakL root key A = (x, e) := ⟨_, _, rfl⟩
  have HC1 : Hid (∀ v W, Strs W v (A.map bt) → KecT W → Calls Tryd.prog 14 #[.string ⟨root.toArray⟩, .string ⟨key.toArray⟩, v] W fun e w' => e = .returned (.tuple #[.string ⟨xa.toArray⟩, .bool (!xa.isEmpty), .int .i64 ea]) ∧ Below W.heap.size W w') := Lib.hid fun v W hv hk => by
    have h := check_any root key A v W hv (by omega) hk
    rw [hra] at h
    exact h
  have HC2 : Hid (ea = 0 → 2 ≤ n → ∀ v W, Strs W v ((A.take (n - 1)).map bt) → KecT W → Calls Tryd.prog 14 #[.string ⟨root.toArray⟩, .string ⟨key.toArray⟩, v] W fun e w' => e = .returned (.tuple #[.string ⟨#[]⟩, .bool false, .int .i64 70]) ∧ Below W.heap.size W w') := Lib.hid fun he h2 v W hv hk => by
    have hne : A ≠ [] := by rintro rfl; simp at hn; omega
    have hd : A.take (n - 1) = A.dropLast := by rw [List.dropLast_eq_take, hn]
    have hcl := check_less (K := keccakL) (root := root) (key := key) (l := A.dropLast) (s := A.getLast hne) (v := xa) (by rw [List.dropLast_concat_getLast hne, hra, he]) (by intro h; have := congrArg List.length h; simp at this; omega)
    have h := check_any root key (A.take (n - 1)) v W hv (by rw [List.length_take]; omega) hk
    rw [hd, hcl] at h
    exact h
  obtain ⟨tl, htl⟩ : ∃ t, more.take 3000 = t := ⟨_, rfl⟩
  have HC3 : Hid (ea = 0 → 2 ≤ n → ∀ v W, Strs W v (A.map bt ++ [bt tl]) → KecT W → Calls Tryd.prog 14 #[.string ⟨root.toArray⟩, .string ⟨key.toArray⟩, v] W fun e w' => e = .returned (.tuple #[.string ⟨#[]⟩, .bool false, .int .i64 70]) ∧ Below W.heap.size W w') := Lib.hid fun he h2 v W hv hk => by
    have hne : A ≠ [] := by rintro rfl; simp at hn; omega
    have hcl := check_more (K := keccakL) (root := root) (key := key) (l := A) (s := tl) (v := xa) (by rw [hra, he]) hne (by rw [← htl, List.length_take]; omega) (by omega)
    have h := check_any root key (A ++ [tl]) v W (by rw [List.map_append]; exact hv) (by rw [List.length_append]; simp; omega) hk
    rw [hcl] at h
    exact h
  obtain ⟨mm, hmm⟩ : ∃ k, min more.length 3000 = k := ⟨_, rfl⟩
  have e1 : min (more.length : Int) 3000 = (mm : Int) := by omega
  have e2 : (0 : Int) ≤ (mm : Int) := by omega
  have e3 : (mm : Int) ≤ (more.length : Int) := by omega
  have hsz : (⟨more.toArray⟩ : ByteArray).size = more.length := rfl
  have hxx := extract_bt more mm
  rw [show more.take mm = tl by rw [← htl, ← hmm]; rcases Nat.le_total more.length 3000 with h | h
                                · rw [Nat.min_eq_left h, List.take_of_length_le (Nat.le_refl _), List.take_of_length_le h]
                                · rw [Nat.min_eq_right h]] at hxx
  have HX := Lib.hid hxx
  have HKT := Lib.hid hK
  have HLA := Lib.hid hlA
  have HN := Lib.hid hn
  have HSH := Lib.hid (shown07_any w hK)
  obtain ⟨p2, c2, rfl, hc2, _⟩ := id hs2
  obtain ⟨k2, hk2⟩ : ∃ k, (xs.map bt).length = k := ⟨_, rfl⟩
  rw [hk2] at HS2 ⊢
  rw [hn] at HS2
  clear hs2 g2 g3 hK hx hn2 hA hlA hn hra hmo htl hmm hxx hc2 hk2
  go_enter Tryd.func6, Tryd.ntmps6
  go_wp2_with fail
  refine HSH.out.mono ?_
  rintro e w1 ⟨rfl, hb1⟩
  have HB1 := Lib.hid hb1
  clear hb1 HSH
  go_wp2_with fail
  refine (HS2.out _ HB1.out).mono ?_
  rintro e w2 ⟨p4, c4, rfl, ho2, hb2⟩
  have HB2 := Lib.hid (HB1.out.trans (hb2.mono HB1.out.size))
  have HO2 := Lib.hid (ho2.base HB1.out.size)
  clear hb2 ho2 HB1 HS2
  go_wp2_with fail
  refine (HC1.out _ _ HO2.out.strs (HKT.out.belowP HB2.out)).mono ?_
  rintro e w3 ⟨rfl, hb3⟩
  have HB3 := Lib.hid (HB2.out.trans (hb3.mono HB2.out.size))
  have HO3 := Lib.hid (HO2.out.after hb3)
  clear hb3 HB2 HO2 HC1
  by_cases hea : ea = 0
  · subst hea
    by_cases h2 : 2 ≤ n
    · have i1 : ¬ (n : Int) < 2 := by omega
      obtain ⟨m, hm⟩ : ∃ m, n - 1 = m := ⟨_, rfl⟩
      have i2 : (n : Int) - 1 = (m : Int) := by omega
      have i3 : (0 : Int) ≤ (m : Int) := by omega
      have hn40 : n ≤ 40 := by rw [← HN.out]; exact HLA.out
      have i5 : wrap64 (m : Int) = (m : Int) := by unfold wrap64; omega
      clear hn40
      have hcap := HO3.out.cap
      rw [List.length_map, HN.out] at hcap
      have i4 : (m : Int) ≤ (c4 : Int) := by omega
      have HD2 := Lib.hid (HC2.out rfl h2)
      have HD3 := Lib.hid (HC3.out rfl h2)
      rw [hm] at HD2
      have HT3 := Lib.hid (HO3.out.strs.take (m := m) (by omega))
      rw [← List.map_take] at HT3
      have hnn : A.map bt ≠ [] := by intro h; have := congrArg List.length h; rw [List.length_map, HN.out] at this; simp at this; omega
      have HNN := Lib.hid hnn
      have HNL : Hid (n ≤ 40) := Lib.hid (by rw [← HN.out]; exact HLA.out)
      clear HC2 HC3 hm hcap hnn
      go_wp2_with fail
      refine (HD2.out _ _ HT3.out (HKT.out.belowP HB3.out)).mono ?_
      rintro e w4 ⟨rfl, hb4⟩
      have HB4 := Lib.hid (HB3.out.trans (hb4.mono HB3.out.size))
      have HO4 := Lib.hid (HO3.out.after hb4)
      clear hb4 HB3 HO3 HD2 HT3 i1 i2 i3 i4 i5
      obtain ⟨n1, hn1⟩ : ∃ k, n + 1 = k := ⟨_, rfl⟩
      have i6 : (n : Int) + 1 = (n1 : Int) := by omega
      have i7 : wrap64 (n1 : Int) = (n1 : Int) := by have := HNL.out; unfold wrap64; omega
      have HN1 := Lib.hid hn1
      clear hn1
      go_wp2_with (with_reducible refine region_gate ?_)
      refine Lib.hid ?_
      refine wp_region_held_drew (S := (fun _ => True)) (by kernel_rfl) (trivial) (fun hHeld => ?_)
      have hTr : True := trivial
      obtain ⟨w5, hw5⟩ : ∃ W, w4.drew = W := ⟨_, rfl⟩
      have HB5 : Hid (Below w.heap.size w w5) := Lib.hid (by rw [← hw5]; exact HB4.out.drew)
      have HO5 : Hid (OwnS w.heap.size w5 (.slice p4 n c4) (A.map bt)) := Lib.hid (by rw [← hw5]; exact HO4.out)
      rw [hw5]
      clear hw5 HB4 HO4
      refine wpAnyH_take (i := 0) (v := ?_) rfl (by kernel_rfl) (by kernel_rfl) (by kernel_rfl) (fun _ _ _ h => h) (.inl ⟨by rfl, ?_⟩) (by assumption) ?_
      rotate_left 1
      · intro w0 hSw
        go_simp <;> with_reducible rfl
      try simp only [Act.put, List.getElem_toArray, List.getElem_cons_zero, List.setIfInBounds_toArray, List.set_cons_zero, List.set_cons_succ]
      refine wpAnyH_take (i := 1) (v := ?_) rfl (by kernel_rfl) (by kernel_rfl) (by kernel_rfl) (fun _ _ _ h => h) (.inl ⟨by rfl, ?_⟩) (by assumption) ?_
      rotate_left 1
      · intro w0 hSw
        go_simp <;> with_reducible rfl
      try simp only [Act.put, List.getElem_toArray, List.getElem_cons_zero, List.getElem_cons_succ, List.setIfInBounds_toArray, List.set_cons_zero, List.set_cons_succ]
      refine wpAnyH_take (i := 2) (v := ?_) rfl (by kernel_rfl) (by kernel_rfl) (by kernel_rfl) (fun _ _ _ h => h) (.inl ⟨by rfl, ?_⟩) (by assumption) ?_
      rotate_left 1
      · intro w0 hSw
        go_simp <;> with_reducible rfl
      try simp only [Act.put, List.getElem_toArray, List.getElem_cons_zero, List.getElem_cons_succ, List.setIfInBounds_toArray, List.set_cons_zero, List.set_cons_succ]
      refine wpAnyH_take (i := 4) (v := ?_) rfl (by kernel_rfl) (by kernel_rfl) (by kernel_rfl) (fun _ _ _ h => h) (.inl ⟨by rfl, ?_⟩) (by assumption) ?_
      rotate_left 1
      · intro w0 hSw
        go_simp <;> with_reducible rfl
      try simp only [Act.put, List.getElem_toArray, List.getElem_cons_zero, List.getElem_cons_succ, List.setIfInBounds_toArray, List.set_cons_zero, List.set_cons_succ]
      refine wpAnyH_take (i := 6) (v := ?_) rfl (by kernel_rfl) (by kernel_rfl) (by kernel_rfl) (fun _ _ _ h => h) (.inl ⟨by rfl, ?_⟩) (by assumption) ?_
      rotate_left 1
      · intro w0 hSw
        go_simp <;> with_reducible rfl
      try simp only [Act.put, List.getElem_toArray, List.getElem_cons_zero, List.getElem_cons_succ, List.setIfInBounds_toArray, List.set_cons_zero, List.set_cons_succ]
      refine wpAnyH_take (i := 7) (v := ?_) rfl (by kernel_rfl) (by kernel_rfl) (by kernel_rfl) (fun _ _ _ h => h) (.inl ⟨by rfl, ?_⟩) (by assumption) ?_
      rotate_left 1
      · intro w0 hSw
        go_simp <;> with_reducible rfl
      try simp only [Act.put, List.getElem_toArray, List.getElem_cons_zero, List.getElem_cons_succ, List.setIfInBounds_toArray, List.set_cons_zero, List.set_cons_succ]
      refine wpAnyH_take (i := 8) (v := ?_) rfl (by kernel_rfl) (by kernel_rfl) (by kernel_rfl) (fun _ _ _ h => h) (.inl ⟨by rfl, ?_⟩) (by assumption) ?_
      rotate_left 1
      · intro w0 hSw
        go_simp <;> with_reducible rfl
      try simp only [Act.put, List.getElem_toArray, List.getElem_cons_zero, List.getElem_cons_succ, List.setIfInBounds_toArray, List.set_cons_zero, List.set_cons_succ]
      refine wpAnyH_take (i := 9) (v := ?_) rfl (by kernel_rfl) (by kernel_rfl) (by kernel_rfl) (fun _ _ _ h => h) (.inl ⟨by rfl, ?_⟩) (by assumption) ?_
      rotate_left 1
      · intro w0 hSw
        go_simp <;> with_reducible rfl
      try simp only [Act.put, List.getElem_toArray, List.getElem_cons_zero, List.getElem_cons_succ, List.setIfInBounds_toArray, List.set_cons_zero, List.set_cons_succ]
      refine wpAnyH_take (i := 10) (v := ?_) rfl (by kernel_rfl) (by kernel_rfl) (by kernel_rfl) (fun _ _ _ h => h) (.inl ⟨by rfl, ?_⟩) (by assumption) ?_
      rotate_left 1
      · intro w0 hSw
        go_simp <;> with_reducible rfl
      try simp only [Act.put, List.getElem_toArray, List.getElem_cons_zero, List.getElem_cons_succ, List.setIfInBounds_toArray, List.set_cons_zero, List.set_cons_succ]
      refine wpAnyH_ready (rs := [3, 11]) (by kernel_rfl) (by simp) ?_
      refine AllReadyH.cons rfl (fun K hK => ?_) (AllReadyH.cons rfl (fun K hK => ?_) AllReadyH.nil)
      · refine step_makeT (by rfl) _ _ 23 rfl w.heap.size Tryd.underlying23 _ _ _ n1 rfl rfl ?a0 ?a1 ?a2 ?_
        case a0 => rw [IntKind.wrap_i64]; have := HNL.out; have := HN1.out; omega
        case a1 => have := HNL.out; have := HN1.out; omega
        case a2 => exact HB5.out.size
        intro w6 hm hg
        have HB6 := Lib.hid (HB5.out.grown hg HB5.out.size (fun r e => by cases e))
        have hltM : w5.heap.size < w6.heap.size := (hm.lt _ rfl).2
        have HO6 := Lib.hid (HO5.out.kept hg (by cases hv : (Value.slice p4 n c4).ownBlock <;> simp))
        have HDM : Hid (∀ r, (Value.slice p4 n c4).ownBlock = some r → r < w5.heap.size) := Lib.hid (fun r e => (HO5.out.lt r e).2)
        have HM6 := Lib.hid hm
        clear hm hg HB5 HO5
        refine hK.out _ _ (trivial) (fun hHeld => ?_)
        clear hK K
        try simp only [Act.put, List.getElem_toArray, List.getElem_cons_zero, List.getElem_cons_succ, List.setIfInBounds_toArray, List.set_cons_zero, List.set_cons_succ]
        refine wpAnyH_ready (rs := [5, 11]) (by kernel_rfl) (by simp) ?_
        refine AllReadyH.cons rfl (fun K hK => ?_) (AllReadyH.cons rfl (fun K hK => ?_) AllReadyH.nil)
        · refine step_appendO (by rfl) _ _ 23 rfl w.heap.size Tryd.underlying23 _ _ rfl HM6.out w.heap.size _ (A.map bt) rfl HO6.out HNN.out ?b0 ?b1 ?_
          case b0 => rw [List.length_map, HN.out]; have := HNL.out; simp; omega
          case b1 => exact HB6.out.size
          intro v7 w7 hm hg
          have HB7 := Lib.hid (HB6.out.grown hg HB6.out.size (fun r e => (HM6.out.lt r e).1))
          rw [List.nil_append] at hm
          have HM7 := Lib.hid hm
          clear hm hg HB6 HO6 HM6
          refine hK.out _ _ (trivial) (fun hHeld => ?_)
          clear hK K
          try simp only [Act.put, List.getElem_toArray, List.getElem_cons_zero, List.getElem_cons_succ, List.setIfInBounds_toArray, List.set_cons_zero, List.set_cons_succ]
          refine wpAnyH_ready (rs := [11]) (by kernel_rfl) (by simp) ?_
          refine AllReadyH.cons rfl (fun K hK => ?_) AllReadyH.nil
          go_simp
          obtain ⟨w8, hal⟩ : ∃ W, w7.alloc (.cells #[.string ((⟨more.toArray⟩ : ByteArray).extract 0 mm)] 9) = W := ⟨_, rfl⟩
          have hlb : Below w7.heap.size w7 w8 := by rw [← hal]; exact laid1 w7 _
          have hltN : w7.heap.size < w8.heap.size := by rw [← hal]; simp
          have HB8 := Lib.hid (HB7.out.trans (hlb.mono HB7.out.size))
          have hnn2 : w8.cell? ⟨w7.heap.size, 0, none⟩ = some (.string ((⟨more.toArray⟩ : ByteArray).extract 0 mm)) := by rw [← hal]; exact (HasCells.new w7 [.string ((⟨more.toArray⟩ : ByteArray).extract 0 mm)] 9).cell (j := 0) rfl
          rw [HX.out] at hnn2
          have HN8 := Lib.hid hnn2
          have HM8 := Lib.hid (HM7.out.after hlb)
          have hGN := True.intro
          rw [hal]
          clear hal hnn2 hlb HB7 HM7
          refine hK.out _ _ (trivial) (fun hHeld => ?_)
          clear hK K
          try simp only [Act.put, List.getElem_toArray, List.getElem_cons_zero, List.getElem_cons_succ, List.setIfInBounds_toArray, List.set_cons_zero, List.set_cons_succ]
          refine wpAnyH_ready (rs := [12]) (by kernel_rfl) (by simp) ?_
          refine AllReadyH.cons rfl (fun K hK => ?_) AllReadyH.nil
          refine step_appendTs (by rfl) _ _ 23 rfl w.heap.size Tryd.underlying23 infoStr _ (A.map bt) rfl HM8.out ⟨w7.heap.size, 0, none⟩ 1 1 [⟨tl.toArray⟩] rfl rfl ?f0 ?f1 ?f2 ?_
          case f0 => exact fun j u hu => one_at hu (by rintro rfl rfl; exact HN8.out)
          case f1 => rw [List.length_map, HN.out]; have := HNL.out; omega
          case f2 => exact HB8.out.size
          intro v9 w9 hm hg _
          have HB9 := Lib.hid (HB8.out.grown hg HB8.out.size (fun r e => (HM8.out.lt r e).1))
          have HS9 := Lib.hid hm.strs
          clear hm hg HB8 HM8 HN8
          refine hK.out _ _ (trivial) (fun hHeld => ?_)
          clear hK K
          try simp only [Act.put, List.getElem_toArray, List.getElem_cons_zero, List.getElem_cons_succ, List.setIfInBounds_toArray, List.set_cons_zero, List.set_cons_succ]
          refine wpAnyH_take (i := 13) (v := ?_) rfl (by kernel_rfl) (by kernel_rfl) (by kernel_rfl) (fun _ _ _ h => h) (.inl ⟨by rfl, ?_⟩) (by assumption) ?_
          rotate_left 1
          · intro w0 hSw
            go_simp <;> with_reducible rfl
          try simp only [Act.put, List.getElem_toArray, List.getElem_cons_zero, List.getElem_cons_succ, List.setIfInBounds_toArray, List.set_cons_zero, List.set_cons_succ]
          refine wpAnyH_done (by kernel_rfl) ?_ 0
          go_wp2_with fail
          refine (HD3.out _ _ HS9.out (HKT.out.belowP HB9.out)).mono ?_
          rintro e wz ⟨rfl, hbz⟩
          have HBZ := Lib.hid (HB9.out.trans (hbz.mono HB9.out.size))
          clear hbz
          go_wp2_with fail
          go_ret
          exact ⟨rfl, HBZ.out⟩
        · go_simp
          obtain ⟨w7, hal⟩ : ∃ W, w6.alloc (.cells #[.string ((⟨more.toArray⟩ : ByteArray).extract 0 mm)] 9) = W := ⟨_, rfl⟩
          have hlb : Below w6.heap.size w6 w7 := by rw [← hal]; exact laid1 w6 _
          have hltN : w6.heap.size < w7.heap.size := by rw [← hal]; simp
          have HB7 := Lib.hid (HB6.out.trans (hlb.mono HB6.out.size))
          have HO7 := Lib.hid (HO6.out.after hlb)
          have hnn2 : w7.cell? ⟨w6.heap.size, 0, none⟩ = some (.string ((⟨more.toArray⟩ : ByteArray).extract 0 mm)) := by rw [← hal]; exact (HasCells.new w6 [.string ((⟨more.toArray⟩ : ByteArray).extract 0 mm)] 9).cell (j := 0) rfl
          rw [HX.out] at hnn2
          have HN7 := Lib.hid hnn2
          have HM7 := Lib.hid (HM6.out.after hlb)
          have hGN : w6.heap.size ≠ w5.heap.size := by have := HM6.out.lt _ rfl; omega
          rw [hal]
          clear hal hnn2 hlb HB6 HO6 HM6
          refine hK.out _ _ (trivial) (fun hHeld => ?_)
          clear hK K
          try simp only [Act.put, List.getElem_toArray, List.getElem_cons_zero, List.getElem_cons_succ, List.setIfInBounds_toArray, List.set_cons_zero, List.set_cons_succ]
          refine wpAnyH_ready (rs := [5]) (by kernel_rfl) (by simp) ?_
          refine AllReadyH.cons rfl (fun K hK => ?_) AllReadyH.nil
          refine step_appendO (by rfl) _ _ 23 rfl w.heap.size Tryd.underlying23 _ _ rfl HM7.out w.heap.size _ (A.map bt) rfl HO7.out HNN.out ?b0 ?b1 ?_
          case b0 => rw [List.length_map, HN.out]; have := HNL.out; simp; omega
          case b1 => exact HB7.out.size
          intro v8 w8 hm hg
          have HB8 := Lib.hid (HB7.out.grown hg HB7.out.size (fun r e => (HM7.out.lt r e).1))
          rw [List.nil_append] at hm
          have HM8 := Lib.hid hm
          have HN8 := Lib.hid (hg.cell HN7.out (fun e => hGN (Option.some.inj e)))
          clear hm hg HB7 HO7 HM7 HN7
          refine hK.out _ _ (trivial) (fun hHeld => ?_)
          clear hK K
          try simp only [Act.put, List.getElem_toArray, List.getElem_cons_zero, List.getElem_cons_succ, List.setIfInBounds_toArray, List.set_cons_zero, List.set_cons_succ]
          refine wpAnyH_ready (rs := [12]) (by kernel_rfl) (by simp) ?_
          refine AllReadyH.cons rfl (fun K hK => ?_) AllReadyH.nil
          refine step_appendTs (by rfl) _ _ 23 rfl w.heap.size Tryd.underlying23 infoStr _ (A.map bt) rfl HM8.out ⟨w6.heap.size, 0, none⟩ 1 1 [⟨tl.toArray⟩] rfl rfl ?f0 ?f1 ?f2 ?_
          case f0 => exact fun j u hu => one_at hu (by rintro rfl rfl; exact HN8.out)
          case f1 => rw [List.length_map, HN.out]; have := HNL.out; omega
          case f2 => exact HB8.out.size
          intro v9 w9 hm hg _
          have HB9 := Lib.hid (HB8.out.grown hg HB8.out.size (fun r e => (HM8.out.lt r e).1))
          have HS9 := Lib.hid hm.strs
          clear hm hg HB8 HM8 HN8
          refine hK.out _ _ (trivial) (fun hHeld => ?_)
          clear hK K
          try simp only [Act.put, List.getElem_toArray, List.getElem_cons_zero, List.getElem_cons_succ, List.setIfInBounds_toArray, List.set_cons_zero, List.set_cons_succ]
          refine wpAnyH_take (i := 13) (v := ?_) rfl (by kernel_rfl) (by kernel_rfl) (by kernel_rfl) (fun _ _ _ h => h) (.inl ⟨by rfl, ?_⟩) (by assumption) ?_
          rotate_left 1
          · intro w0 hSw
            go_simp <;> with_reducible rfl
          try simp only [Act.put, List.getElem_toArray, List.getElem_cons_zero, List.getElem_cons_succ, List.setIfInBounds_toArray, List.set_cons_zero, List.set_cons_succ]
          refine wpAnyH_done (by kernel_rfl) ?_ 0
          go_wp2_with fail
          refine (HD3.out _ _ HS9.out (HKT.out.belowP HB9.out)).mono ?_
          rintro e wz ⟨rfl, hbz⟩
          have HBZ := Lib.hid (HB9.out.trans (hbz.mono HB9.out.size))
          clear hbz
          go_wp2_with fail
          go_ret
          exact ⟨rfl, HBZ.out⟩
      · go_simp
        obtain ⟨w6, hal⟩ : ∃ W, w5.alloc (.cells #[.string ((⟨more.toArray⟩ : ByteArray).extract 0 mm)] 9) = W := ⟨_, rfl⟩
        have hlb : Below w5.heap.size w5 w6 := by rw [← hal]; exact laid1 w5 _
        have hltN : w5.heap.size < w6.heap.size := by rw [← hal]; simp
        have HB6 := Lib.hid (HB5.out.trans (hlb.mono HB5.out.size))
        have HO6 := Lib.hid (HO5.out.after hlb)
        have hnn2 : w6.cell? ⟨w5.heap.size, 0, none⟩ = some (.string ((⟨more.toArray⟩ : ByteArray).extract 0 mm)) := by rw [← hal]; exact (HasCells.new w5 [.string ((⟨more.toArray⟩ : ByteArray).extract 0 mm)] 9).cell (j := 0) rfl
        rw [HX.out] at hnn2
        have HN6 := Lib.hid hnn2
        rw [hal]
        clear hal hnn2 hlb HB5 HO5
        refine hK.out _ _ (trivial) (fun hHeld => ?_)
        clear hK K
        try simp only [Act.put, List.getElem_toArray, List.getElem_cons_zero, List.getElem_cons_succ, List.setIfInBounds_toArray, List.set_cons_zero, List.set_cons_succ]
        refine wpAnyH_ready (rs := [3]) (by kernel_rfl) (by simp) ?_
        refine AllReadyH.cons rfl (fun K hK => ?_) AllReadyH.nil
        refine step_makeT (by rfl) _ _ 23 rfl w.heap.size Tryd.underlying23 _ _ _ n1 rfl rfl ?a0 ?a1 ?a2 ?_
        case a0 => rw [IntKind.wrap_i64]; have := HNL.out; have := HN1.out; omega
        case a1 => have := HNL.out; have := HN1.out; omega
        case a2 => exact HB6.out.size
        intro w7 hm hg
        have HB7 := Lib.hid (HB6.out.grown hg HB6.out.size (fun r e => by cases e))
        have hltM : w6.heap.size < w7.heap.size := (hm.lt _ rfl).2
        have HO7 := Lib.hid (HO6.out.kept hg (by cases hv : (Value.slice p4 n c4).ownBlock <;> simp))
        have HDM : Hid (∀ r, (Value.slice p4 n c4).ownBlock = some r → r < w6.heap.size) := Lib.hid (fun r e => (HO6.out.lt r e).2)
        have HM7 := Lib.hid hm
        have HN7 := Lib.hid (hg.cell HN6.out (by simp))
        have hGN : w5.heap.size ≠ w6.heap.size := by have := hltN; omega
        clear hm hg HB6 HO6 HN6
        refine hK.out _ _ (trivial) (fun hHeld => ?_)
        clear hK K
        try simp only [Act.put, List.getElem_toArray, List.getElem_cons_zero, List.getElem_cons_succ, List.setIfInBounds_toArray, List.set_cons_zero, List.set_cons_succ]
        refine wpAnyH_ready (rs := [5]) (by kernel_rfl) (by simp) ?_
        refine AllReadyH.cons rfl (fun K hK => ?_) AllReadyH.nil
        refine step_appendO (by rfl) _ _ 23 rfl w.heap.size Tryd.underlying23 _ _ rfl HM7.out w.heap.size _ (A.map bt) rfl HO7.out HNN.out ?b0 ?b1 ?_
        case b0 => rw [List.length_map, HN.out]; have := HNL.out; simp; omega
        case b1 => exact HB7.out.size
        intro v8 w8 hm hg
        have HB8 := Lib.hid (HB7.out.grown hg HB7.out.size (fun r e => (HM7.out.lt r e).1))
        rw [List.nil_append] at hm
        have HM8 := Lib.hid hm
        have HN8 := Lib.hid (hg.cell HN7.out (fun e => hGN (Option.some.inj e)))
        clear hm hg HB7 HO7 HM7 HN7
        refine hK.out _ _ (trivial) (fun hHeld => ?_)
        clear hK K
        try simp only [Act.put, List.getElem_toArray, List.getElem_cons_zero, List.getElem_cons_succ, List.setIfInBounds_toArray, List.set_cons_zero, List.set_cons_succ]
        refine wpAnyH_ready (rs := [12]) (by kernel_rfl) (by simp) ?_
        refine AllReadyH.cons rfl (fun K hK => ?_) AllReadyH.nil
        refine step_appendTs (by rfl) _ _ 23 rfl w.heap.size Tryd.underlying23 infoStr _ (A.map bt) rfl HM8.out ⟨w5.heap.size, 0, none⟩ 1 1 [⟨tl.toArray⟩] rfl rfl ?f0 ?f1 ?f2 ?_
        case f0 => exact fun j u hu => one_at hu (by rintro rfl rfl; exact HN8.out)
        case f1 => rw [List.length_map, HN.out]; have := HNL.out; omega
        case f2 => exact HB8.out.size
        intro v9 w9 hm hg _
        have HB9 := Lib.hid (HB8.out.grown hg HB8.out.size (fun r e => (HM8.out.lt r e).1))
        have HS9 := Lib.hid hm.strs
        clear hm hg HB8 HM8 HN8
        refine hK.out _ _ (trivial) (fun hHeld => ?_)
        clear hK K
        try simp only [Act.put, List.getElem_toArray, List.getElem_cons_zero, List.getElem_cons_succ, List.setIfInBounds_toArray, List.set_cons_zero, List.set_cons_succ]
        refine wpAnyH_take (i := 13) (v := ?_) rfl (by kernel_rfl) (by kernel_rfl) (by kernel_rfl) (fun _ _ _ h => h) (.inl ⟨by rfl, ?_⟩) (by assumption) ?_
        rotate_left 1
        · intro w0 hSw
          go_simp <;> with_reducible rfl
        try simp only [Act.put, List.getElem_toArray, List.getElem_cons_zero, List.getElem_cons_succ, List.setIfInBounds_toArray, List.set_cons_zero, List.set_cons_succ]
        refine wpAnyH_done (by kernel_rfl) ?_ 0
        go_wp2_with fail
        refine (HD3.out _ _ HS9.out (HKT.out.belowP HB9.out)).mono ?_
        rintro e wz ⟨rfl, hbz⟩
        have HBZ := Lib.hid (HB9.out.trans (hbz.mono HB9.out.size))
        clear hbz
        go_wp2_with fail
        go_ret
        exact ⟨rfl, HBZ.out⟩
    · have i1 : (n : Int) < 2 := by omega
      go_wp2_with fail
      go_ret
      exact ⟨rfl, HB3.out⟩
  · have q1 : (ea == 0) = false := by simpa using hea
    go_wp2_with fail
    go_ret
    exact ⟨rfl, HB3.out⟩
end Go.Proofs.YthicdhnjincflaaDoor
