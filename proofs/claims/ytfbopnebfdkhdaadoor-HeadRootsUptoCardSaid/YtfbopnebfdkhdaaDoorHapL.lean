/- The walk of HeadApart. -/
import Derived.Test.YtfbopnebfdkhdaaDoorR13A
import Derived.Test.YtfbopnebfdkhdaaDoorHedB
namespace Go.Proofs.YtfbopnebfdkhdaaDoor
open Go.RowKit Go.Shelf Go.Lib
attribute [local go_sem] Oper.semAt_some

theorem hdrChunks_small {n m : Nat} {a b c : ByteArray} (ha : a.size ≤ 1048576) (hb : b.size ≤ 1048576) (hc : c.size ≤ 1048576) : ∀ x ∈ hdrChunks n m a b c, x.size ≤ 1048576 := by
  intro x hx
  unfold hdrChunks at hx
  simp only [List.mem_cons, List.not_mem_nil, or_false] at hx
  rcases hx with rfl | rfl | rfl | rfl | rfl
  · rw [numL_size]; omega
  · rw [numL_size]; omega
  · exact ha
  · exact hb
  · exact hc
theorem pairsB_mem (l : List ByteArray) (h : ∀ x ∈ l, x.size ≤ 1048576) : ∀ x ∈ pairsB l, x.size ≤ 2097152 := by
  intro x hx
  unfold pairsB at hx
  obtain ⟨i, hi, rfl⟩ := List.mem_map.1 hx
  have hi' := List.mem_range.1 hi
  have hg : ∀ j, (l.getD j noughtB).size ≤ 1048576 := by
    intro j
    rw [List.getD_eq_getElem?_getD]
    by_cases hj : j < l.length
    · rw [List.getElem?_eq_getElem hj]; exact h _ (List.getElem_mem _)
    · rw [List.getElem?_eq_none (by omega)]
      show noughtB.size ≤ 1048576
      rw [noughtB_size]; omega
  have h1 := hg (2 * i)
  have h2 := hg (2 * i + 1)
  rw [ByteArray.size_append]; omega
theorem sumsUp_mem (l : List ByteArray) (h : ∀ x ∈ l, x.size ≤ 1048576) (u : Nat) : ∀ x ∈ sumsUp l u, x.size ≤ 2097152 := by
  induction u with
  | zero => intro x hx; cases hx
  | succ u ih =>
    intro x hx
    rw [sumsUp] at hx
    rcases List.mem_append.1 hx with hx | hx
    · exact ih x hx
    · exact pairsB_mem _ (lvlB_mem l 1048576 (by omega) h u) x hx
theorem sumsUp3_length (l : List ByteArray) (h : l.length = 8) : (sumsUp l 3).length = 7 := by
  simp only [sumsUp, List.length_append, pairsB_length, lvlB_length, h, List.length_nil]
theorem neq_nat {n m : Nat} (h : n ≠ m) : ((n : Int) == (m : Int)) = false := by rw [beq_eq_false_iff_ne]; omega
theorem eq_nat {n m : Nat} (h : n = m) : ((n : Int) == (m : Int)) = true := by rw [h]; exact beq_self_eq_true _
theorem eq_texts {x y : ByteArray} (h : x = y) : (x.toList == y.toList) = true := by rw [h]; exact beq_self_eq_true _
theorem hdr_cases (n m : Nat) (a b c : ByteArray) (n' m' : Nat) (a' b' c' : ByteArray) :
    (((n : Int) == (n' : Int)) = true ∧ ((m : Int) == (m' : Int)) = true ∧ (a.toList == a'.toList) = true ∧ (b.toList == b'.toList) = true ∧ (c.toList == c'.toList) = true) ∨
    (¬ (n = n' ∧ m = m' ∧ a = a' ∧ b = b' ∧ c = c') ∧ (((n : Int) == (n' : Int)) = false ∨ (((n : Int) == (n' : Int)) = true ∧ ((m : Int) == (m' : Int)) = false) ∨ (((n : Int) == (n' : Int)) = true ∧ ((m : Int) == (m' : Int)) = true ∧ (a.toList == a'.toList) = false) ∨
      (((n : Int) == (n' : Int)) = true ∧ ((m : Int) == (m' : Int)) = true ∧ (a.toList == a'.toList) = true ∧ (b.toList == b'.toList) = false) ∨ (((n : Int) == (n' : Int)) = true ∧ ((m : Int) == (m' : Int)) = true ∧ (a.toList == a'.toList) = true ∧ (b.toList == b'.toList) = true ∧ (c.toList == c'.toList) = false))) := by
  by_cases k0 : n = n'
  · by_cases k1 : m = m'
    · by_cases k2 : a = a'
      · by_cases k3 : b = b'
        · by_cases k4 : c = c'
          · exact .inl ⟨eq_nat k0, eq_nat k1, eq_texts k2, eq_texts k3, eq_texts k4⟩
          · exact .inr ⟨fun h => k4 h.2.2.2.2, .inr (.inr (.inr (.inr ⟨eq_nat k0, eq_nat k1, eq_texts k2, eq_texts k3, neq_texts k4⟩)))⟩
        · exact .inr ⟨fun h => k3 h.2.2.2.1, .inr (.inr (.inr (.inl ⟨eq_nat k0, eq_nat k1, eq_texts k2, neq_texts k3⟩)))⟩
      · exact .inr ⟨fun h => k2 h.2.2.1, .inr (.inr (.inl ⟨eq_nat k0, eq_nat k1, neq_texts k2⟩))⟩
    · exact .inr ⟨fun h => k1 h.2.1, .inr (.inl ⟨eq_nat k0, neq_nat k1⟩)⟩
  · exact .inr ⟨fun h => k0 h.1, .inl (neq_nat k0)⟩
theorem rooted_split (n m : Nat) (a b c : ByteArray) : ∃ (s : ByteArray) (e : Int), rootedV (hdrChunks n m a b c) 3 = .tuple #[.string s, .int .i64 e] ∧ (e = 130 ∨ e = 0 ∧ rightB (hdrChunks n m a b c) 3 = true ∧ s = rootB 3 (hdrChunks n m a b c) noughtB) := by
  unfold rootedV
  by_cases h : rightB (hdrChunks n m a b c) 3 = true
  · rw [if_pos h]; exact ⟨_, _, rfl, .inr ⟨rfl, h, rfl⟩⟩
  · rw [if_neg h]; exact ⟨_, _, rfl, .inl rfl⟩

set_option maxRecDepth 100000 in
set_option maxHeartbeats 6400000 in
theorem headApart_any (n m : Nat) (a b c : ByteArray) (n' m' : Nat) (a' b' c' : ByteArray) (w : World) (hn : n < 18446744073709551616) (hm : m < 18446744073709551616) (ha : a.size ≤ 1048576) (hb : b.size ≤ 1048576) (hc : c.size ≤ 1048576)
    (hn' : n' < 18446744073709551616) (hm' : m' < 18446744073709551616) (ha' : a'.size ≤ 1048576) (hb' : b'.size ≤ 1048576) (hc' : c'.size ≤ 1048576) (hK : KTab w) :
    Calls Tryd.prog 3 #[.agg #[.int .u64 n, .int .u64 m, .string a, .string b, .string c], .agg #[.int .u64 n', .int .u64 m', .string a', .string b', .string c']] w fun e w' => e = .returned (.bool true) ∧ Below w.heap.size w w' := by
  have hx1 := hdrChunks_small (n := n) (m := m) ha hb hc
  have hx2 := hdrChunks_small (n := n') (m := m') ha' hb' hc'
  have h1 := fun W (h : KTab W) => headRoot_any n m a b c W hn hm ha hb hc h
  have h2 := fun W (h : KTab W) => headRoot_any n' m' a' b' c' W hn' hm' ha' hb' hc' h
  have h3 := fun W => rsums_any n m a b c W hn hm hx1
  have h4 := fun W => rsums_any n' m' a' b' c' W hn' hm' hx2
  obtain ⟨s1, e1, hv1, hc1⟩ := rooted_split n m a b c
  obtain ⟨s2, e2, hv2, hc2⟩ := rooted_split n' m' a' b' c'
  rw [hv1] at h1
  rw [hv2] at h2
  have hcl : e1 = 0 → e2 = 0 → s1 = s2 → ¬ (n = n' ∧ m = m' ∧ a = a' ∧ b = b' ∧ c = c') → HasClash (sumsUp (padB 3 (hdrChunks n m a b c)) 3 ++ sumsUp (padB 3 (hdrChunks n' m' a' b' c')) 3) := by
    intro g1 g2 g3 g4
    obtain ⟨p1, p2⟩ := (hc1.resolve_left (by omega)).2
    obtain ⟨q1, q2⟩ := (hc2.resolve_left (by omega)).2
    rw [← sumsB_eq, ← sumsB_eq]
    exact hdr_clash hn hm hn' hm' p1 q1 g4 (by rw [← p2, ← q2]; exact g3)
  have hm1 := sumsUp_mem _ (padB_small 3 _ hx1) 3
  have hm2 := sumsUp_mem _ (padB_small 3 _ hx2) 3
  have hlA := sumsUp3_length (padB 3 (hdrChunks n m a b c)) (padB_length 3 _ (by simp [hdrChunks]))
  have hlB := sumsUp3_length (padB 3 (hdrChunks n' m' a' b' c')) (padB_length 3 _ (by simp [hdrChunks]))
  obtain ⟨A, hA⟩ : ∃ A, sumsUp (padB 3 (hdrChunks n m a b c)) 3 = A := ⟨_, rfl⟩
  obtain ⟨B, hB⟩ : ∃ B, sumsUp (padB 3 (hdrChunks n' m' a' b' c')) 3 = B := ⟨_, rfl⟩
  rw [hA] at h3 hcl hm1 hlA
  rw [hB] at h4 hcl hm2 hlB
  have hclash := fun v W (h : Strs W v (A ++ B)) => clash_any v (A ++ B) W h (by rw [List.length_append, hlA, hlB]; omega) (fun x hx => by
    rcases List.mem_append.1 hx with h | h
    · have := hm1 x h; omega
    · have := hm2 x h; omega)
  have hc1' : e1 = 130 ∨ e1 = 0 := hc1.imp_right And.left
  have hc2' : e2 = 130 ∨ e2 = 0 := hc2.imp_right And.left
  have hca : ∀ j u, [Value.int .u64 n, .int .u64 m, .string a, .string b, .string c][j]? = some u → (w.alloc (.cells #[.int .u64 n, .int .u64 m, .string a, .string b, .string c] 24)).cell? ⟨w.heap.size, j, none⟩ = some u := fun j u h => by
    rw [World.cell?_alloc_mark]; simpa using h
  have hcb : ∀ j u, [Value.int .u64 n', .int .u64 m', .string a', .string b', .string c'][j]? = some u → ((w.alloc (.cells #[.int .u64 n, .int .u64 m, .string a, .string b, .string c] 24)).alloc (.cells #[.int .u64 n', .int .u64 m', .string a', .string b', .string c'] 24)).cell? ⟨w.heap.size + 1, j, none⟩ = some u := fun j u h => by
    rw [show w.heap.size + 1 = (w.alloc (.cells #[.int .u64 n, .int .u64 m, .string a, .string b, .string c] 24)).heap.size from by simp, World.cell?_alloc_mark]; simpa using h
  have hk : w.heap.size + 1 < ((w.alloc (.cells #[.int .u64 n, .int .u64 m, .string a, .string b, .string c] 24)).alloc (.cells #[.int .u64 n', .int .u64 m', .string a', .string b', .string c'] 24)).heap.size := by simp
  have hca2 : ∀ j u, [Value.int .u64 n, .int .u64 m, .string a, .string b, .string c][j]? = some u → ((w.alloc (.cells #[.int .u64 n, .int .u64 m, .string a, .string b, .string c] 24)).alloc (.cells #[.int .u64 n', .int .u64 m', .string a', .string b', .string c'] 24)).cell? ⟨w.heap.size, j, none⟩ = some u := fun j u h => by
    refine (((Below.refl (w.alloc (.cells #[.int .u64 n, .int .u64 m, .string a, .string b, .string c] 24)).heap.size (w.alloc (.cells #[.int .u64 n, .int .u64 m, .string a, .string b, .string c] 24))).alloc (Nat.le_refl _) (.cells #[.int .u64 n', .int .u64 m', .string a', .string b', .string c'] 24)).cell (p := ⟨w.heap.size, j, none⟩) (by simp)).trans (hca j u h)
  have hwb : Below w.heap.size w ((w.alloc (.cells #[.int .u64 n, .int .u64 m, .string a, .string b, .string c] 24)).alloc (.cells #[.int .u64 n', .int .u64 m', .string a', .string b', .string c'] 24)) := ((Below.refl w.heap.size w).alloc (Nat.le_refl _) _).alloc (by simp) _
  have hSS : ∀ W, Below ((w.alloc (.cells #[.int .u64 n, .int .u64 m, .string a, .string b, .string c] 24)).alloc (.cells #[.int .u64 n', .int .u64 m', .string a', .string b', .string c'] 24)).heap.size ((w.alloc (.cells #[.int .u64 n, .int .u64 m, .string a, .string b, .string c] 24)).alloc (.cells #[.int .u64 n', .int .u64 m', .string a', .string b', .string c'] 24)) W → W.cell? ⟨w.heap.size, 0, none⟩ = some (.int .u64 n) ∧ W.cell? ⟨w.heap.size, 1, none⟩ = some (.int .u64 m) ∧ W.cell? ⟨w.heap.size, 2, none⟩ = some (.string a) ∧ W.cell? ⟨w.heap.size, 3, none⟩ = some (.string b) ∧ W.cell? ⟨w.heap.size, 4, none⟩ = some (.string c) ∧ W.cell? ⟨w.heap.size + 1, 0, none⟩ = some (.int .u64 n') ∧ W.cell? ⟨w.heap.size + 1, 1, none⟩ = some (.int .u64 m') ∧ W.cell? ⟨w.heap.size + 1, 2, none⟩ = some (.string a') ∧ W.cell? ⟨w.heap.size + 1, 3, none⟩ = some (.string b') ∧ W.cell? ⟨w.heap.size + 1, 4, none⟩ = some (.string c') := fun W h =>
    ⟨(h.cell (p := ⟨w.heap.size, 0, none⟩) (by dsimp only; omega)).trans (hca2 0 _ rfl), (h.cell (p := ⟨w.heap.size, 1, none⟩) (by dsimp only; omega)).trans (hca2 1 _ rfl), (h.cell (p := ⟨w.heap.size, 2, none⟩) (by dsimp only; omega)).trans (hca2 2 _ rfl), (h.cell (p := ⟨w.heap.size, 3, none⟩) (by dsimp only; omega)).trans (hca2 3 _ rfl), (h.cell (p := ⟨w.heap.size, 4, none⟩) (by dsimp only; omega)).trans (hca2 4 _ rfl), (h.cell (p := ⟨w.heap.size + 1, 0, none⟩) hk).trans (hcb 0 _ rfl), (h.cell (p := ⟨w.heap.size + 1, 1, none⟩) hk).trans (hcb 1 _ rfl), (h.cell (p := ⟨w.heap.size + 1, 2, none⟩) hk).trans (hcb 2 _ rfl), (h.cell (p := ⟨w.heap.size + 1, 3, none⟩) hk).trans (hcb 3 _ rfl), (h.cell (p := ⟨w.heap.size + 1, 4, none⟩) hk).trans (hcb 4 _ rfl)⟩
  have H1 := Lib.hid h1
  have H2 := Lib.hid h2
  have HS1 := Lib.hid h3
  have HS2 := Lib.hid h4
  have HCL := Lib.hid hclash
  have HPL := Lib.hid hcl
  have HSS := Lib.hid hSS
  have HWB := Lib.hid hwb
  have HK := Lib.hid hK
  clear hx1 hx2 h1 h2 h3 h4 hv1 hv2 hc1 hc2 hcl hm1 hm2 hA hB hclash hca hcb hca2 hwb hSS hK hn hm ha hb hc hn' hm' ha' hb' hc'
  go_enter Tryd.func3, Tryd.ntmps3
  go_wp2_with fail
  obtain ⟨wb, hwb⟩ : ∃ wb, (w.alloc (.cells #[.int .u64 n, .int .u64 m, .string a, .string b, .string c] 24)).alloc (.cells #[.int .u64 n', .int .u64 m', .string a', .string b', .string c'] 24) = wb := ⟨_, rfl⟩
  rw [hwb] at HSS HWB hk ⊢
  clear hwb
  have hz : wb.heap.size ≤ wb.heap.size := Nat.le_refl _
  refine (shown13_any wb (HK.out.below HWB.out)).mono ?_
  rintro e w1 ⟨rfl, b1⟩
  obtain ⟨q0, q1, q2, q3, q4, r0, r1, r2, r3, r4⟩ := HSS.out w1 b1
  go_wp2_with fail
  refine (H1.out w1 (HK.out.below (HWB.out.trans (b1.mono HWB.out.size)))).mono ?_
  rintro e w2 ⟨rfl, hb2⟩
  have b2 : Below wb.heap.size wb w2 := b1.trans (hb2.mono b1.size)
  clear b1 hb2 q0 q1 q2 q3 q4 r0 r1 r2 r3 r4
  obtain ⟨q0, q1, q2, q3, q4, r0, r1, r2, r3, r4⟩ := HSS.out w2 b2
  go_wp2_with fail
  refine (H2.out w2 (HK.out.below (HWB.out.trans (b2.mono HWB.out.size)))).mono ?_
  rintro e w3 ⟨rfl, hb3⟩
  have b2' : Below wb.heap.size wb w3 := b2.trans (hb3.mono b2.size)
  have hz3 : wb.heap.size ≤ w3.heap.size := b2'.size
  have b3 : Below wb.heap.size wb w3.drew := b2'.drew
  clear b2 hb3 q0 q1 q2 q3 q4 r0 r1 r2 r3 r4
  obtain ⟨q0, q1, q2, q3, q4, r0, r1, r2, r3, r4⟩ := HSS.out w3 b2'
  rcases hc1' with rfl | rfl
  · go_wp2
    go_ret
    exact ⟨rfl, HWB.out.trans (b2'.mono HWB.out.size)⟩
  · rcases hc2' with rfl | rfl
    · go_wp2
      go_ret
      exact ⟨rfl, HWB.out.trans (b2'.mono HWB.out.size)⟩
    · have hpl := HPL.out rfl rfl
      clear HPL
      rcases hdr_cases n m a b c n' m' a' b' c' with ⟨h0, h1, h2, h3, h4⟩ | ⟨hne, key⟩
      · clear hpl
        go_wp2
        go_ret
        exact ⟨rfl, HWB.out.trans (b2'.mono HWB.out.size)⟩
      by_cases hs : s1 = s2
      · have HCLASH := Lib.hid (hpl hs hne)
        subst hs
        clear hpl hne
        rcases key with h0 | ⟨h0, h1⟩ | ⟨h0, h1, h2⟩ | ⟨h0, h1, h2, h3⟩ | ⟨h0, h1, h2, h3, h4⟩
        all_goals
          go_wp2_with fail
          clear q0 q1 q2 q3 q4 r0 r1 r2 r3 r4
          refine wp_region_held_drew (S := (fun W => W.cell? ⟨w.heap.size, 0, none⟩ = some (.int .u64 n) ∧ W.cell? ⟨w.heap.size, 1, none⟩ = some (.int .u64 m) ∧ W.cell? ⟨w.heap.size, 2, none⟩ = some (.string a) ∧ W.cell? ⟨w.heap.size, 3, none⟩ = some (.string b) ∧ W.cell? ⟨w.heap.size, 4, none⟩ = some (.string c) ∧ W.cell? ⟨w.heap.size + 1, 0, none⟩ = some (.int .u64 n') ∧ W.cell? ⟨w.heap.size + 1, 1, none⟩ = some (.int .u64 m') ∧ W.cell? ⟨w.heap.size + 1, 2, none⟩ = some (.string a') ∧ W.cell? ⟨w.heap.size + 1, 3, none⟩ = some (.string b') ∧ W.cell? ⟨w.heap.size + 1, 4, none⟩ = some (.string c'))) (by kernel_rfl) (HSS.out _ b3) (fun hHeld => ?_)
          refine wpAnyH_take (i := 0) (v := ?_) rfl (by kernel_rfl) (by kernel_rfl) (by kernel_rfl) (fun _ _ _ h => h) (.inl ⟨by rfl, ?_⟩) (by assumption) ?_
          rotate_left 1
          · intro w0 hSw
            go_simp <;> with_reducible rfl
          try simp only [Act.put, List.getElem_toArray, List.getElem_cons_zero, List.setIfInBounds_toArray, List.set_cons_zero, List.set_cons_succ]
          refine wpAnyH_take (i := 1) (v := ?_) rfl (by kernel_rfl) (by kernel_rfl) (by kernel_rfl) (fun _ _ _ h => h) (.inl ⟨by rfl, ?_⟩) (by assumption) ?_
          rotate_left 1
          · intro w0 hSw
            go_simp <;> with_reducible rfl
          try simp only [Act.put, List.getElem_toArray, List.getElem_cons_zero, List.getElem_cons_succ, List.setIfInBounds_toArray, List.set_cons_zero, List.set_cons_succ]
          refine wpAnyH_take (i := 2) (v := ?_) rfl (by kernel_rfl) (by kernel_rfl) (by kernel_rfl) (fun _ _ _ h => h) (.inl ⟨by rfl, ?_⟩) (by assumption) ?_
          rotate_left 1
          · intro w0 hSw
            obtain ⟨z0, z1, z2, z3, z4, y0, y1, y2, y3, y4⟩ := hSw
            go_simp <;> with_reducible rfl
          try simp only [Act.put, List.getElem_toArray, List.getElem_cons_zero, List.getElem_cons_succ, List.setIfInBounds_toArray, List.set_cons_zero, List.set_cons_succ]
          refine wpAnyH_take (i := 4) (v := ?_) rfl (by kernel_rfl) (by kernel_rfl) (by kernel_rfl) (fun _ _ _ h => h) (.inl ⟨by rfl, ?_⟩) (by assumption) ?_
          rotate_left 1
          · intro w0 hSw
            obtain ⟨z0, z1, z2, z3, z4, y0, y1, y2, y3, y4⟩ := hSw
            go_simp <;> with_reducible rfl
          try simp only [Act.put, List.getElem_toArray, List.getElem_cons_zero, List.getElem_cons_succ, List.setIfInBounds_toArray, List.set_cons_zero, List.set_cons_succ]
          refine wpAnyH_ready (rs := [3]) (by kernel_rfl) (by simp) ?_
          refine AllReadyH.cons rfl (fun K hK => ?_) AllReadyH.nil
          go_simp
          go_at_call 13
          refine (HS1.out _).mono ?_
          rintro e w4 ⟨vA, rfl, hoA, hb4⟩
          have b4 : Below wb.heap.size wb w4 := b3.trans (hb4.mono b3.size)
          have hz4 : w3.heap.size ≤ w4.heap.size := hb4.size
          obtain ⟨pA, cA, hvA⟩ := hoA.form
          rw [hlA] at hvA
          subst hvA
          have HOA := Lib.hid (show OwnS w3.heap.size w4 (.slice pA 7 cA) A from hoA)
          clear hoA hb4
          refine hK.out _ _ (HSS.out _ b4) (fun hHeld => ?_)
          clear hK K
          try simp only [Act.put, List.getElem_toArray, List.getElem_cons_zero, List.getElem_cons_succ, List.setIfInBounds_toArray, List.set_cons_zero, List.set_cons_succ]
          refine wpAnyH_ready (rs := [5]) (by kernel_rfl) (by simp) ?_
          refine AllReadyH.cons rfl (fun K hK => ?_) AllReadyH.nil
          go_simp
          go_at_call 13
          refine (HS2.out _).mono ?_
          rintro e w5 ⟨vB, rfl, hoB, hb5⟩
          have b5 : Below wb.heap.size wb w5 := b4.trans (hb5.mono b4.size)
          have hz5 : w3.heap.size ≤ w5.heap.size := Nat.le_trans hz4 hb5.size
          obtain ⟨g, cB, hvB, -, -, hcB, -⟩ := hoB.opened (by rw [hlB]; omega)
          rw [hlB] at hvB
          subst hvB
          have HOA5 := Lib.hid (HOA.out.after hb5)
          have HCB := Lib.hid hcB
          clear hoB hb5 HOA hcB
          refine hK.out _ _ (HSS.out _ b5) (fun hHeld => ?_)
          clear hK K
          try simp only [Act.put, List.getElem_toArray, List.getElem_cons_zero, List.getElem_cons_succ, List.setIfInBounds_toArray, List.set_cons_zero, List.set_cons_succ]
          refine wpAnyH_ready (rs := [6]) (by kernel_rfl) (by simp) ?_
          refine AllReadyH.cons rfl (fun K hK => ?_) AllReadyH.nil
          refine step_appendTs (by rfl) _ _ 30 rfl w3.heap.size Tryd.underlying30 infoStr _ A rfl HOA5.out ⟨g, 0, none⟩ 7 cB B rfl hlB ?e0 ?e1 ?e2 ?_
          case e0 => exact fun j x hx => by rw [addr_add]; exact HCB.out j x hx
          case e1 => rw [hlA]; omega
          case e2 => exact hz5
          intro v6 w6 ho6 hg6 _
          have b6 : Below wb.heap.size wb w6 := b5.grown hg6 b5.size (fun k hk => Nat.le_trans hz3 (HOA5.out.lt k hk).1)
          obtain ⟨p6, c6, hv6⟩ := ho6.form
          rw [List.length_append, hlA, hlB] at hv6
          subst hv6
          have HST := Lib.hid ho6.strs
          clear ho6 hg6
          refine hK.out _ _ (HSS.out _ b6) (fun hHeld => ?_)
          clear hK K
          try simp only [Act.put, List.getElem_toArray, List.getElem_cons_zero, List.getElem_cons_succ, List.setIfInBounds_toArray, List.set_cons_zero, List.set_cons_succ]
          refine wpAnyH_ready (rs := [7]) (by kernel_rfl) (by simp) ?_
          refine AllReadyH.cons rfl (fun K hK => ?_) AllReadyH.nil
          go_simp
          go_at_call 12
          refine (HCL.out _ _ HST.out).mono ?_
          rintro e w7 ⟨⟨bb, rfl, hbb⟩, hb7⟩
          have b7 : Below wb.heap.size wb w7 := b6.trans (hb7.mono b6.size)
          obtain rfl := hbb HCLASH.out
          clear hb7 hbb
          refine hK.out _ _ (HSS.out _ b7) (fun hHeld => ?_)
          clear hK K
          try simp only [Act.put, List.getElem_toArray, List.getElem_cons_zero, List.getElem_cons_succ, List.setIfInBounds_toArray, List.set_cons_zero, List.set_cons_succ]
          refine wpAnyH_take (i := 8) (v := ?_) rfl (by kernel_rfl) (by kernel_rfl) (by kernel_rfl) (fun _ _ _ h => h) (.inl ⟨by rfl, ?_⟩) (by assumption) ?_
          rotate_left 1
          · intro w0 hSw
            go_simp <;> with_reducible rfl
          try simp only [Act.put, List.getElem_toArray, List.getElem_cons_zero, List.getElem_cons_succ, List.setIfInBounds_toArray, List.set_cons_zero, List.set_cons_succ]
          refine wpAnyH_take (i := 9) (v := ?_) rfl (by kernel_rfl) (by kernel_rfl) (by kernel_rfl) (fun _ _ _ h => h) (.inl ⟨by rfl, ?_⟩) (by assumption) ?_
          rotate_left 1
          · intro w0 hSw
            go_simp <;> with_reducible rfl
          try simp only [Act.put, List.getElem_toArray, List.getElem_cons_zero, List.getElem_cons_succ, List.setIfInBounds_toArray, List.set_cons_zero, List.set_cons_succ]
          refine wpAnyH_done (by kernel_rfl) ?_ 0
          go_wp2
          go_ret
          exact ⟨rfl, HWB.out.trans (b7.mono HWB.out.size)⟩
      · have hs' := neq_texts hs
        clear hpl hne
        rcases key with h0 | ⟨h0, h1⟩ | ⟨h0, h1, h2⟩ | ⟨h0, h1, h2, h3⟩ | ⟨h0, h1, h2, h3, h4⟩
        all_goals
          go_wp2
          go_ret
          exact ⟨rfl, HWB.out.trans (b2'.mono HWB.out.size)⟩
end Go.Proofs.YtfbopnebfdkhdaaDoor
