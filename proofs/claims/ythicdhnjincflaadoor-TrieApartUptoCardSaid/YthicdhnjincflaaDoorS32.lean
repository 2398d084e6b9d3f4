/- What the walks take: TrwB, TrxA. -/
import Derived.Test.YthicdhnjincflaaDoorS21
import Derived.Test.YthicdhnjincflaaDoorS25
import Derived.Test.YthicdhnjincflaaDoorS31
import Derived.Laws.EntriesVeiled
namespace Go.Proofs.YthicdhnjincflaaDoor
open Go.RowKit Go.Shelf Go.Lib
attribute [local go_sem] Oper.semAt_some
/-- what the closure does: the variable's row holds these texts -/
def Tells (B bo : Nat) (w : World) (l : List ByteArray) (w' : World) : Prop :=
  Below bo w w' ∧ B ≤ w'.heap.size ∧ (∀ k, k < B → k ≠ bo → w'.heap[k]? = w.heap[k]?) ∧ ∃ p c, HasCells w' bo [.slice p l.length c] 23 ∧ OwnS B w' (.slice p l.length c) l
theorem Tells.trans {B bo : Nat} {w w1 w2 : World} {l1 l2 : List ByteArray} (h1 : Tells B bo w l1 w1) (h2 : Tells B bo w1 l2 w2) : Tells B bo w l2 w2 :=
  ⟨h1.1.trans h2.1, h2.2.1, fun k hk hne => (h2.2.2.1 k hk hne).trans (h1.2.2.1 k hk hne), h2.2.2.2⟩
set_option maxRecDepth 100000 in
set_option maxHeartbeats 12800000 in
theorem tell_any (f : Nat) : ∀ (qs : List PairD) (d g bo bt_ B : Nat) (L : List ByteArray) (p : Option Addr) (c : Nat) (A : Nat → Prop) (w : World), NodeAt f A w qs d g → (∀ k, A k → k < B ∧ k ≠ bo ∧ k ≠ bt_) → bo < B → bt_ < B → bo ≠ bt_ → B ≤ w.heap.size →
    HasCells w bo [.slice p L.length c] 23 → HasCells w bt_ [.func (.func 52) #[] #[.pointer (some ⟨bo, 0, none⟩), .pointer (some ⟨bt_, 0, none⟩)]] 77 → OwnS B w (.slice p L.length c) L → Valid qs d → L.length + (nodesP keccakL f qs d).length ≤ 1000000 →
    Calls Tryd.prog 52 #[.pointer (some ⟨g, 0, none⟩), .bool (decide (d = 0)), .pointer (some ⟨bo, 0, none⟩), .pointer (some ⟨bt_, 0, none⟩)] w fun e w' => e = .returned (.tuple #[]) ∧ Tells B bo w (L ++ (nodesP keccakL f qs d).map bt) w' := by
  induction f with
  | zero => intro qs d g bo bt_ B L p c A w hn; exact hn.elim
  | succ f ih =>
    intro qs d g bo bt_ B L p c A w hn hA hbo hbt hne hB hco hct hO hval hlen
    obtain ⟨f1, hf1, u, vl, vn, ptrs, hg, hcl, -, hpn, hpl, hkid⟩ := hn.shown
    obtain rfl : f = f1 := by omega
    have htl : nodesP keccakL (f + 1) qs d = toldP keccakL (f + 1) qs d ++ (kidsP qs d).flatMap fun k => nodesP keccakL f k.2.1 k.2.2 := by rw [nodes_tail, nodes_kids]
    have htd : toldP keccakL (f + 1) qs d = if d = 0 ∨ 32 ≤ (bytesP keccakL (f + 1) qs d).length then [bytesP keccakL (f + 1) qs d] else [] := rfl
    obtain ⟨by_, hby⟩ : ∃ b, bytesP keccakL (f + 1) qs d = b := ⟨_, rfl⟩
    rw [hby] at hcl htd
    obtain ⟨ks, hks⟩ : ∃ l, kidsP qs d = l := ⟨_, rfl⟩
    have hsp := fun x (hx : x ∈ kidsP qs d) => kids_spec hval hx
    rw [hks] at hsp htl hpl hkid
    obtain ⟨q, cn, hvn, hor⟩ := hpn
    obtain ⟨n, hn0⟩ : ∃ n, ks.length = n := ⟨_, rfl⟩
    rw [hn0] at hpl
    rw [hpl] at hvn
    subst hvn
    rw [htl] at hlen ⊢
    obtain ⟨x0, x1, x2, hcl⟩ : ∃ x0 x1 x2, HasCells w g [x0, x1, x2, .string ⟨by_.toArray⟩, vl, .slice q n cn] 75 := ⟨_, _, _, hcl⟩
    have hgw := (hA g hg).1
    have HNB := Lib.hid (hA g hg)
    have HCL := Lib.hid hcl
    have HCO := Lib.hid hco
    have HCT := Lib.hid hct
    have HO := Lib.hid hO
    have HK := Lib.hid hkid
    have HSP := Lib.hid hsp
    have HOR := Lib.hid hor
    have HA := Lib.hid hA
    have HN := Lib.hid hn0
    have HPL := Lib.hid hpl
    have HIH := Lib.hid ih
    have hsz : (⟨by_.toArray⟩ : ByteArray).size = by_.length := rfl
    obtain ⟨bl, hbl⟩ : ∃ n, by_.length = n := ⟨_, rfl⟩
    rw [hbl] at hsz htd
    have hnl : n ≤ 1000000 := by
      rw [← hn0, ← hks]
      exact Nat.le_trans (kids_len qs d) (by omega)
    have HLEN := Lib.hid hlen
    clear hn hkid hsp hor hA hn0 hpl ih hlen hcl hct htl hf1 hks hg hby hbl
    rw [htd] at HLEN ⊢
    clear htd
    have hcase : (d = 0 ∨ 32 ≤ bl) ∨ ¬ (d = 0 ∨ 32 ≤ bl) := Classical.em _
    rcases hcase with hc | hc
    · rw [if_pos hc] at HLEN ⊢
      have hlw : L.length ≤ 1000000 := by have := HLEN.out; simp at this; omega
      have hc2 : d = 0 ∨ (decide (d = 0) = false ∧ (32 : Int) ≤ bl) := by
        by_cases h0 : d = 0
        · exact .inl h0
        · exact .inr ⟨by simp [h0], by omega⟩
      rw [show L ++ (([by_] : List (List UInt8)) ++ ks.flatMap fun k => nodesP keccakL f k.2.1 k.2.2).map bt = (L ++ [bt by_]) ++ (ks.flatMap fun k => nodesP keccakL f k.2.1 k.2.2).map bt from by simp]
      obtain ⟨tot, htot⟩ : ∃ t, (L ++ [bt by_]) ++ (ks.flatMap fun k => nodesP keccakL f k.2.1 k.2.2).map bt = t := ⟨_, rfl⟩
      rw [htot]
      have HTOT := Lib.hid htot
      have HLE2 : Hid ((L ++ [bt by_]).length + (ks.flatMap fun k => nodesP keccakL f k.2.1 k.2.2).length ≤ 1000000) := Lib.hid (by have := HLEN.out; simp at this ⊢; omega)
      obtain ⟨ll, hll⟩ : ∃ n, L.length = n := ⟨_, rfl⟩
      have HLL := Lib.hid hll
      rw [hll] at hco hO HCO HO hlw
      clear hc htot HLEN hll hO hco
      rcases hc2 with rfl | ⟨h1, h3⟩
      · rw [show decide (0 = 0) = true from rfl]
        have c3 := HCL.out.cell (j := 3) rfl
        have c5 := HCL.out.cell (j := 5) rfl
        have o0 := HCO.out.cell (j := 0) rfl
        go_enter Tryd.func52, Tryd.ntmps52
        go_wp2_with fail
        have HSF := Lib.hid (show w.drew.cell? ⟨bo, 0, none⟩ = some (.slice p ll c) ∧ w.drew.cell? ⟨g, 3, none⟩ = some (.string ⟨by_.toArray⟩) from ⟨(HCO.out.kept rfl : HasCells w.drew _ _ 23).cell (j := 0) rfl, (HCL.out.kept rfl : HasCells w.drew _ _ 75).cell (j := 3) rfl⟩)
        refine wp_region_L (fun Ls w' => Ls.getD 7 true = false → w'.cell? ⟨bo, 0, none⟩ = some (.slice p ll c) ∧ w'.cell? ⟨g, 3, none⟩ = some (.string ⟨by_.toArray⟩)) (by kernel_rfl) ?_
        refine wpAnyL_take (i := 0) (v := ?_) (fuel := 7) rfl (by kernel_rfl) (by kernel_rfl) (by kernel_rfl) (by kernel_rfl) (fun _ _ _ h => h) (fun Ls w' => by rw [getD_set_ne true (by omega)]) (fun _ => HSF.out) (.inl ⟨by rfl, ?_⟩) ?_
        rotate_left 1
        · rintro w' ⟨Ls, hcl, h0, hS⟩
          have hSw := hS (closedB_before hcl (i := 0) (by kernel_rfl) h0)
          obtain ⟨z0, z1⟩ := hSw
          clear hS hcl h0
          go_simp <;> with_reducible rfl
        try simp only [Act.put, List.getElem_toArray, List.getElem_cons_zero, List.setIfInBounds_toArray, List.set_cons_zero, List.set_cons_succ]
        refine wpAnyL_take (i := 1) (v := ?_) (fuel := 6) rfl (by kernel_rfl) (by kernel_rfl) (by kernel_rfl) (by kernel_rfl) (fun _ _ _ h => h) (fun Ls w' => by rw [getD_set_ne true (by omega)]) (fun _ => HSF.out) (.inl ⟨by rfl, ?_⟩) ?_
        rotate_left 1
        · rintro w' ⟨Ls, hcl, h0, hS⟩
          clear hS hcl h0
          go_simp <;> with_reducible rfl
        try simp only [Act.put, List.getElem_toArray, List.getElem_cons_zero, List.getElem_cons_succ, List.setIfInBounds_toArray, List.set_cons_zero, List.set_cons_succ]
        refine wpAnyL_take (i := 2) (v := ?_) (fuel := 5) rfl (by kernel_rfl) (by kernel_rfl) (by kernel_rfl) (by kernel_rfl) (fun _ _ _ h => h) (fun Ls w' => by rw [getD_set_ne true (by omega)]) (fun _ => HSF.out) (.inl ⟨by rfl, ?_⟩) ?_
        rotate_left 1
        · rintro w' ⟨Ls, hcl, h0, hS⟩
          clear hS hcl h0
          go_simp <;> with_reducible rfl
        try simp only [Act.put, List.getElem_toArray, List.getElem_cons_zero, List.getElem_cons_succ, List.setIfInBounds_toArray, List.set_cons_zero, List.set_cons_succ]
        refine wpAnyL_take (i := 3) (v := ?_) (fuel := 4) rfl (by kernel_rfl) (by kernel_rfl) (by kernel_rfl) (by kernel_rfl) (fun _ _ _ h => h) (fun Ls w' => by rw [getD_set_ne true (by omega)]) (fun _ => HSF.out) (.inl ⟨by rfl, ?_⟩) ?_
        rotate_left 1
        · rintro w' ⟨Ls, hcl, h0, hS⟩
          clear hS hcl h0
          go_simp <;> with_reducible rfl
        try simp only [Act.put, List.getElem_toArray, List.getElem_cons_zero, List.getElem_cons_succ, List.setIfInBounds_toArray, List.set_cons_zero, List.set_cons_succ]
        refine wpAnyL_take (i := 4) (v := ?_) (fuel := 3) rfl (by kernel_rfl) (by kernel_rfl) (by kernel_rfl) (by kernel_rfl) (fun _ _ _ h => h) (fun Ls w' => by rw [getD_set_ne true (by omega)]) (fun _ => HSF.out) (.inl ⟨by rfl, ?_⟩) ?_
        rotate_left 1
        · rintro w' ⟨Ls, hcl, h0, hS⟩
          have hSw := hS (closedB_before hcl (i := 4) (by kernel_rfl) h0)
          obtain ⟨z0, z1⟩ := hSw
          clear hS hcl h0
          go_simp <;> with_reducible rfl
        try simp only [Act.put, List.getElem_toArray, List.getElem_cons_zero, List.getElem_cons_succ, List.setIfInBounds_toArray, List.set_cons_zero, List.set_cons_succ]
        refine wpAnyL_one (i := 5) (fuel := 2) (by kernel_rfl) rfl (fun K hK => ?_)
        go_simp
        obtain ⟨w2, hal⟩ : ∃ W, (w.alloc (.cells #[.string ⟨by_.toArray⟩] 9)).drew = W := ⟨_, rfl⟩
        have hb2 : Below w.heap.size w w2 := by rw [← hal]; exact (laid1 w _).drew
        have HO2 := Lib.hid (HO.out.after hb2)
        have hn2 : w2.cell? ⟨w.heap.size, 0, none⟩ = some (.string (bt by_)) := by rw [← hal]; exact ((HasCells.new w [.string ⟨by_.toArray⟩] 9).kept rfl : HasCells (w.alloc (.cells #[.string ⟨by_.toArray⟩] 9)).drew _ _ 9).cell (j := 0) rfl
        have HN2 := Lib.hid hn2
        have HCO2 := Lib.hid (HCO.out.after hb2)
        have HCL2 := Lib.hid (HCL.out.after hb2)
        have HB2 := Lib.hid hb2
        have hs2 := hb2.size
        rw [hal]
        clear hal hn2 hb2
        have HSF2 := Lib.hid (show w2.cell? ⟨bo, 0, none⟩ = some (.slice p ll c) ∧ w2.cell? ⟨g, 3, none⟩ = some (.string ⟨by_.toArray⟩) from ⟨HCO2.out.cell (j := 0) rfl, HCL2.out.cell (j := 3) rfl⟩)
        refine hK.out _ _ (fun h => HSF2.out) (fun _ => ?_)
        clear hK K
        try simp only [Act.put, List.getElem_toArray, List.getElem_cons_zero, List.getElem_cons_succ, List.setIfInBounds_toArray, List.set_cons_zero, List.set_cons_succ]
        refine wpAnyL_one (i := 6) (fuel := 1) (by kernel_rfl) rfl (fun K hK => ?_)
        refine step_appendTs (by rfl) _ _ 23 rfl B Tryd.underlying23 infoStr _ L rfl HO2.out ⟨w.heap.size, 0, none⟩ 1 1 [bt by_] rfl rfl ?f0 ?f1 ?f2 ?_
        case f0 => exact fun j u hu => one_at hu (by rintro rfl rfl; exact HN2.out)
        case f1 => rw [HLL.out]; omega
        case f2 => omega
        intro v3 w3 ho3 hg3 _
        obtain ⟨p3, c3_, rfl⟩ := ho3.form
        have hl3 : (L ++ [bt by_]).length = ll + 1 := by rw [List.length_append, HLL.out]; rfl
        have b3 : Below bo w w3 := (HB2.out.mono (by omega)).grown hg3 (by omega) (fun q e => by have := (HO2.out.lt q e).1; omega)
        have hk3 : ∀ k, k < B → w3.heap[k]? = w.heap[k]? := fun k hk => (hg3.block k (by omega) (fun e => by have := (HO2.out.lt k e.symm).1; omega)).trans (HB2.out.block k (by omega))
        have HCO3 := Lib.hid (HCO.out.kept (hk3 bo hbo))
        have HCL3 := Lib.hid (HCL.out.kept (hk3 g hgw))
        have HO3 := Lib.hid ho3
        have HB3 := Lib.hid b3
        have HK3 := Lib.hid hk3
        have hs3 := hg3.size
        rw [hl3] at HO3 ⊢
        clear ho3 hg3 b3 hk3
        have HSF3 := Lib.hid (show w3.cell? ⟨bo, 0, none⟩ = some (.slice p ll c) ∧ w3.cell? ⟨g, 3, none⟩ = some (.string ⟨by_.toArray⟩) from ⟨HCO3.out.cell (j := 0) rfl, HCL3.out.cell (j := 3) rfl⟩)
        refine hK.out _ _ (fun h => HSF3.out) (fun _ => ?_)
        clear hK K
        try simp only [Act.put, List.getElem_toArray, List.getElem_cons_zero, List.getElem_cons_succ, List.setIfInBounds_toArray, List.set_cons_zero, List.set_cons_succ]
        have d0 := HCO3.out.cell (j := 0) rfl
        have fz := HCO3.out.frozen 0
        refine wpAnyL_one (i := 7) (fuel := 0) (by kernel_rfl) rfl (fun K hK => ?_)
        go_simp
        refine hK.out _ _ (fun h => (by cases h)) (fun _ => ?_)
        clear hK K
        try simp only [Act.put, List.getElem_toArray, List.getElem_cons_zero, List.getElem_cons_succ, List.setIfInBounds_toArray, List.set_cons_zero, List.set_cons_succ]
        refine wpAnyL_done (by kernel_rfl) ?_ 0
        obtain ⟨w4, hw4⟩ : ∃ W, w3.setCell ⟨bo, 0, none⟩ (.slice p3 (ll + 1) c3_) = W := ⟨_, rfl⟩
        have hbl4 : ∀ k, k ≠ bo → w4.heap[k]? = w3.heap[k]? := fun k hk => by rw [← hw4]; exact Below.heap_setCell _ ⟨bo, 0, none⟩ _ k hk
        have hs4 : w3.heap.size ≤ w4.heap.size := by rw [← hw4]; simp
        have HTa := Lib.hid (show Tells B bo w (L ++ [bt by_]) w4 from ⟨by rw [← hw4]; exact HB3.out.setCell (p := ⟨bo, 0, none⟩) (Nat.le_refl _) _, by omega, fun k hk hkn => (hbl4 k hkn).trans (HK3.out k hk), p3, c3_, by rw [hl3, ← hw4]; exact HCO3.out.set 0 _, by rw [hl3]; exact HO3.out.of_block (fun k e => hbl4 k (by have := (HO3.out.lt k e).1; omega))⟩)
        have c5 := ((HCL3.out.kept (hbl4 g HNB.out.2.1)).cell (j := 5) rfl)
        try rw [hw4]
        clear hw4 hbl4 d0 fz c3 o0
        go_wp2_with fail
        go_loopw [29] (fun i wr => ∃ k : Nat, k ≤ n ∧ i = .int .i64 k ∧ Aside (Tells B bo w ((L ++ [bt by_]) ++ ((ks.take k).flatMap fun x => nodesP keccakL f x.2.1 x.2.2).map bt) wr)) (fun i _ => n - (RowKit.intOf i).toNat)
        case atStart => exact ⟨0, Nat.zero_le _, rfl, Lib.hid (by simpa using HTa.out)⟩
        case round =>
          obtain ⟨k, hk, rfl, HT⟩ := hrel
          by_cases hlt : k < n
          · obtain ⟨x, hx⟩ : ∃ x, ks[k]? = some x := ⟨_, List.getElem?_eq_getElem (by rw [HN.out]; exact hlt)⟩
            obtain ⟨gk, hgk, hnk⟩ := HK.out k x hx
            obtain ⟨bk, oo, rfl, hAk, hpc⟩ := HOR.out.resolve_left (fun e => by have := HPL.out; rw [e] at this; simp at this; omega)
            have hxm := HSP.out x (List.mem_of_getElem? hx)
            obtain ⟨ht1, ht2, ht3, pk, ck, ht4, ht5⟩ := HT.out
            have e1 := (World.cell?_of_block (a := ⟨bk, oo + k, none⟩) (ht3 bk (HA.out bk hAk).1 (HA.out bk hAk).2.1)).trans (hpc k gk hgk)
            unfold ptrN at e1
            have hct2 := HCT.out.kept (ht3 bt_ hbt (Ne.symm hne))
            have e2 := hct2.cell (j := 0) rfl
            have htk : (ks.take (k + 1)).flatMap (fun x => nodesP keccakL f x.2.1 x.2.2) = (ks.take k).flatMap (fun x => nodesP keccakL f x.2.1 x.2.2) ++ nodesP keccakL f x.2.1 x.2.2 := by rw [List.take_add_one, hx]; simp
            have hsub : (ks.take k).flatMap (fun x => nodesP keccakL f x.2.1 x.2.2) ++ nodesP keccakL f x.2.1 x.2.2 <+: ks.flatMap (fun x => nodesP keccakL f x.2.1 x.2.2) := by
              rw [← htk]
              conv => rhs; rw [← List.take_append_drop (k + 1) ks, List.flatMap_append]
              exact List.prefix_append _ _
            have hsl := hsub.length_le
            rw [List.length_append] at hsl
            have HCA := Lib.hid (HIH.out x.2.1 x.2.2 gk bo bt_ B _ pk ck A wr (hnk.kept (fun k hk => ht3 k (HA.out k hk).1 (HA.out k hk).2.1) (fun _ h => h)) HA.out hbo hbt hne ht2 ht4 hct2 ht5 hxm.2.2.2.1 (by have := HLE2.out; simp only [List.length_append, List.length_map] at this ⊢; omega))
            have hd0 : decide (x.2.2 = 0) = false := by have := hxm.2.1; have h5 := hxm.1; have : x.1.length ≠ 0 := fun e => this (List.eq_nil_of_length_eq_zero e); simp; omega
            rw [hd0] at HCA
            have HTK := Lib.hid htk
            have g1 : (0 : Int) ≤ k := by omega
            have g2 : (k : Int) < n := by omega
            clear ht1 ht2 ht3 ht4 ht5 hct2 hsub hsl hxm hnk hgk hx hpc hd0 htk
            go_wp2_with fail
            refine HCA.out.mono ?_
            rintro e w5 ⟨rfl, hte⟩
            have HT5 := Lib.hid (HT.out.trans hte)
            clear hte e1 e2
            go_wp2_with fail
            go_roundw
            case rel => exact ⟨k + 1, by omega, by go_num, by have := HT5.out; rw [List.append_assoc, ← List.map_append, ← HTK.out] at this; exact Lib.hid this⟩
            case measure => simp [RowKit.intOf]; omega
          · have hmk : k = n := by omega
            subst hmk
            have hte := HT.out
            rw [List.take_of_length_le (by rw [HN.out]; exact Nat.le_refl _), HTOT.out] at hte
            have HTE := Lib.hid hte
            clear hte
            go_wp2
            go_end0
            exact ⟨rfl, HTE.out⟩
      · rw [h1]
        have c3 := HCL.out.cell (j := 3) rfl
        have c5 := HCL.out.cell (j := 5) rfl
        have o0 := HCO.out.cell (j := 0) rfl
        go_enter Tryd.func52, Tryd.ntmps52
        go_wp2_with fail
        have HSF := Lib.hid (show w.drew.cell? ⟨bo, 0, none⟩ = some (.slice p ll c) ∧ w.drew.cell? ⟨g, 3, none⟩ = some (.string ⟨by_.toArray⟩) from ⟨(HCO.out.kept rfl : HasCells w.drew _ _ 23).cell (j := 0) rfl, (HCL.out.kept rfl : HasCells w.drew _ _ 75).cell (j := 3) rfl⟩)
        refine wp_region_L (fun Ls w' => Ls.getD 7 true = false → w'.cell? ⟨bo, 0, none⟩ = some (.slice p ll c) ∧ w'.cell? ⟨g, 3, none⟩ = some (.string ⟨by_.toArray⟩)) (by kernel_rfl) ?_
        refine wpAnyL_take (i := 0) (v := ?_) (fuel := 7) rfl (by kernel_rfl) (by kernel_rfl) (by kernel_rfl) (by kernel_rfl) (fun _ _ _ h => h) (fun Ls w' => by rw [getD_set_ne true (by omega)]) (fun _ => HSF.out) (.inl ⟨by rfl, ?_⟩) ?_
        rotate_left 1
        · rintro w' ⟨Ls, hcl, h0, hS⟩
          have hSw := hS (closedB_before hcl (i := 0) (by kernel_rfl) h0)
          obtain ⟨z0, z1⟩ := hSw
          clear hS hcl h0
          go_simp <;> with_reducible rfl
        try simp only [Act.put, List.getElem_toArray, List.getElem_cons_zero, List.setIfInBounds_toArray, List.set_cons_zero, List.set_cons_succ]
        refine wpAnyL_take (i := 1) (v := ?_) (fuel := 6) rfl (by kernel_rfl) (by kernel_rfl) (by kernel_rfl) (by kernel_rfl) (fun _ _ _ h => h) (fun Ls w' => by rw [getD_set_ne true (by omega)]) (fun _ => HSF.out) (.inl ⟨by rfl, ?_⟩) ?_
        rotate_left 1
        · rintro w' ⟨Ls, hcl, h0, hS⟩
          clear hS hcl h0
          go_simp <;> with_reducible rfl
        try simp only [Act.put, List.getElem_toArray, List.getElem_cons_zero, List.getElem_cons_succ, List.setIfInBounds_toArray, List.set_cons_zero, List.set_cons_succ]
        refine wpAnyL_take (i := 2) (v := ?_) (fuel := 5) rfl (by kernel_rfl) (by kernel_rfl) (by kernel_rfl) (by kernel_rfl) (fun _ _ _ h => h) (fun Ls w' => by rw [getD_set_ne true (by omega)]) (fun _ => HSF.out) (.inl ⟨by rfl, ?_⟩) ?_
        rotate_left 1
        · rintro w' ⟨Ls, hcl, h0, hS⟩
          clear hS hcl h0
          go_simp <;> with_reducible rfl
        try simp only [Act.put, List.getElem_toArray, List.getElem_cons_zero, List.getElem_cons_succ, List.setIfInBounds_toArray, List.set_cons_zero, List.set_cons_succ]
        refine wpAnyL_take (i := 3) (v := ?_) (fuel := 4) rfl (by kernel_rfl) (by kernel_rfl) (by kernel_rfl) (by kernel_rfl) (fun _ _ _ h => h) (fun Ls w' => by rw [getD_set_ne true (by omega)]) (fun _ => HSF.out) (.inl ⟨by rfl, ?_⟩) ?_
        rotate_left 1
        · rintro w' ⟨Ls, hcl, h0, hS⟩
          clear hS hcl h0
          go_simp <;> with_reducible rfl
        try simp only [Act.put, List.getElem_toArray, List.getElem_cons_zero, List.getElem_cons_succ, List.setIfInBounds_toArray, List.set_cons_zero, List.set_cons_succ]
        refine wpAnyL_take (i := 4) (v := ?_) (fuel := 3) rfl (by kernel_rfl) (by kernel_rfl) (by kernel_rfl) (by kernel_rfl) (fun _ _ _ h => h) (fun Ls w' => by rw [getD_set_ne true (by omega)]) (fun _ => HSF.out) (.inl ⟨by rfl, ?_⟩) ?_
        rotate_left 1
        · rintro w' ⟨Ls, hcl, h0, hS⟩
          have hSw := hS (closedB_before hcl (i := 4) (by kernel_rfl) h0)
          obtain ⟨z0, z1⟩ := hSw
          clear hS hcl h0
          go_simp <;> with_reducible rfl
        try simp only [Act.put, List.getElem_toArray, List.getElem_cons_zero, List.getElem_cons_succ, List.setIfInBounds_toArray, List.set_cons_zero, List.set_cons_succ]
        refine wpAnyL_one (i := 5) (fuel := 2) (by kernel_rfl) rfl (fun K hK => ?_)
        go_simp
        obtain ⟨w2, hal⟩ : ∃ W, (w.alloc (.cells #[.string ⟨by_.toArray⟩] 9)).drew = W := ⟨_, rfl⟩
        have hb2 : Below w.heap.size w w2 := by rw [← hal]; exact (laid1 w _).drew
        have HO2 := Lib.hid (HO.out.after hb2)
        have hn2 : w2.cell? ⟨w.heap.size, 0, none⟩ = some (.string (bt by_)) := by rw [← hal]; exact ((HasCells.new w [.string ⟨by_.toArray⟩] 9).kept rfl : HasCells (w.alloc (.cells #[.string ⟨by_.toArray⟩] 9)).drew _ _ 9).cell (j := 0) rfl
        have HN2 := Lib.hid hn2
        have HCO2 := Lib.hid (HCO.out.after hb2)
        have HCL2 := Lib.hid (HCL.out.after hb2)
        have HB2 := Lib.hid hb2
        have hs2 := hb2.size
        rw [hal]
        clear hal hn2 hb2
        have HSF2 := Lib.hid (show w2.cell? ⟨bo, 0, none⟩ = some (.slice p ll c) ∧ w2.cell? ⟨g, 3, none⟩ = some (.string ⟨by_.toArray⟩) from ⟨HCO2.out.cell (j := 0) rfl, HCL2.out.cell (j := 3) rfl⟩)
        refine hK.out _ _ (fun h => HSF2.out) (fun _ => ?_)
        clear hK K
        try simp only [Act.put, List.getElem_toArray, List.getElem_cons_zero, List.getElem_cons_succ, List.setIfInBounds_toArray, List.set_cons_zero, List.set_cons_succ]
        refine wpAnyL_one (i := 6) (fuel := 1) (by kernel_rfl) rfl (fun K hK => ?_)
        refine step_appendTs (by rfl) _ _ 23 rfl B Tryd.underlying23 infoStr _ L rfl HO2.out ⟨w.heap.size, 0, none⟩ 1 1 [bt by_] rfl rfl ?f0 ?f1 ?f2 ?_
        case f0 => exact fun j u hu => one_at hu (by rintro rfl rfl; exact HN2.out)
        case f1 => rw [HLL.out]; omega
        case f2 => omega
        intro v3 w3 ho3 hg3 _
        obtain ⟨p3, c3_, rfl⟩ := ho3.form
        have hl3 : (L ++ [bt by_]).length = ll + 1 := by rw [List.length_append, HLL.out]; rfl
        have b3 : Below bo w w3 := (HB2.out.mono (by omega)).grown hg3 (by omega) (fun q e => by have := (HO2.out.lt q e).1; omega)
        have hk3 : ∀ k, k < B → w3.heap[k]? = w.heap[k]? := fun k hk => (hg3.block k (by omega) (fun e => by have := (HO2.out.lt k e.symm).1; omega)).trans (HB2.out.block k (by omega))
        have HCO3 := Lib.hid (HCO.out.kept (hk3 bo hbo))
        have HCL3 := Lib.hid (HCL.out.kept (hk3 g hgw))
        have HO3 := Lib.hid ho3
        have HB3 := Lib.hid b3
        have HK3 := Lib.hid hk3
        have hs3 := hg3.size
        rw [hl3] at HO3 ⊢
        clear ho3 hg3 b3 hk3
        have HSF3 := Lib.hid (show w3.cell? ⟨bo, 0, none⟩ = some (.slice p ll c) ∧ w3.cell? ⟨g, 3, none⟩ = some (.string ⟨by_.toArray⟩) from ⟨HCO3.out.cell (j := 0) rfl, HCL3.out.cell (j := 3) rfl⟩)
        refine hK.out _ _ (fun h => HSF3.out) (fun _ => ?_)
        clear hK K
        try simp only [Act.put, List.getElem_toArray, List.getElem_cons_zero, List.getElem_cons_succ, List.setIfInBounds_toArray, List.set_cons_zero, List.set_cons_succ]
        have d0 := HCO3.out.cell (j := 0) rfl
        have fz := HCO3.out.frozen 0
        refine wpAnyL_one (i := 7) (fuel := 0) (by kernel_rfl) rfl (fun K hK => ?_)
        go_simp
        refine hK.out _ _ (fun h => (by cases h)) (fun _ => ?_)
        clear hK K
        try simp only [Act.put, List.getElem_toArray, List.getElem_cons_zero, List.getElem_cons_succ, List.setIfInBounds_toArray, List.set_cons_zero, List.set_cons_succ]
        refine wpAnyL_done (by kernel_rfl) ?_ 0
        obtain ⟨w4, hw4⟩ : ∃ W, w3.setCell ⟨bo, 0, none⟩ (.slice p3 (ll + 1) c3_) = W := ⟨_, rfl⟩
        have hbl4 : ∀ k, k ≠ bo → w4.heap[k]? = w3.heap[k]? := fun k hk => by rw [← hw4]; exact Below.heap_setCell _ ⟨bo, 0, none⟩ _ k hk
        have hs4 : w3.heap.size ≤ w4.heap.size := by rw [← hw4]; simp
        have HTa := Lib.hid (show Tells B bo w (L ++ [bt by_]) w4 from ⟨by rw [← hw4]; exact HB3.out.setCell (p := ⟨bo, 0, none⟩) (Nat.le_refl _) _, by omega, fun k hk hkn => (hbl4 k hkn).trans (HK3.out k hk), p3, c3_, by rw [hl3, ← hw4]; exact HCO3.out.set 0 _, by rw [hl3]; exact HO3.out.of_block (fun k e => hbl4 k (by have := (HO3.out.lt k e).1; omega))⟩)
        have c5 := ((HCL3.out.kept (hbl4 g HNB.out.2.1)).cell (j := 5) rfl)
        try rw [hw4]
        clear hw4 hbl4 d0 fz c3 o0
        go_wp2_with fail
        go_loopw [29] (fun i wr => ∃ k : Nat, k ≤ n ∧ i = .int .i64 k ∧ Aside (Tells B bo w ((L ++ [bt by_]) ++ ((ks.take k).flatMap fun x => nodesP keccakL f x.2.1 x.2.2).map bt) wr)) (fun i _ => n - (RowKit.intOf i).toNat)
        case atStart => exact ⟨0, Nat.zero_le _, rfl, Lib.hid (by simpa using HTa.out)⟩
        case round =>
          obtain ⟨k, hk, rfl, HT⟩ := hrel
          by_cases hlt : k < n
          · obtain ⟨x, hx⟩ : ∃ x, ks[k]? = some x := ⟨_, List.getElem?_eq_getElem (by rw [HN.out]; exact hlt)⟩
            obtain ⟨gk, hgk, hnk⟩ := HK.out k x hx
            obtain ⟨bk, oo, rfl, hAk, hpc⟩ := HOR.out.resolve_left (fun e => by have := HPL.out; rw [e] at this; simp at this; omega)
            have hxm := HSP.out x (List.mem_of_getElem? hx)
            obtain ⟨ht1, ht2, ht3, pk, ck, ht4, ht5⟩ := HT.out
            have e1 := (World.cell?_of_block (a := ⟨bk, oo + k, none⟩) (ht3 bk (HA.out bk hAk).1 (HA.out bk hAk).2.1)).trans (hpc k gk hgk)
            unfold ptrN at e1
            have hct2 := HCT.out.kept (ht3 bt_ hbt (Ne.symm hne))
            have e2 := hct2.cell (j := 0) rfl
            have htk : (ks.take (k + 1)).flatMap (fun x => nodesP keccakL f x.2.1 x.2.2) = (ks.take k).flatMap (fun x => nodesP keccakL f x.2.1 x.2.2) ++ nodesP keccakL f x.2.1 x.2.2 := by rw [List.take_add_one, hx]; simp
            have hsub : (ks.take k).flatMap (fun x => nodesP keccakL f x.2.1 x.2.2) ++ nodesP keccakL f x.2.1 x.2.2 <+: ks.flatMap (fun x => nodesP keccakL f x.2.1 x.2.2) := by
              rw [← htk]
              conv => rhs; rw [← List.take_append_drop (k + 1) ks, List.flatMap_append]
              exact List.prefix_append _ _
            have hsl := hsub.length_le
            rw [List.length_append] at hsl
            have HCA := Lib.hid (HIH.out x.2.1 x.2.2 gk bo bt_ B _ pk ck A wr (hnk.kept (fun k hk => ht3 k (HA.out k hk).1 (HA.out k hk).2.1) (fun _ h => h)) HA.out hbo hbt hne ht2 ht4 hct2 ht5 hxm.2.2.2.1 (by have := HLE2.out; simp only [List.length_append, List.length_map] at this ⊢; omega))
            have hd0 : decide (x.2.2 = 0) = false := by have := hxm.2.1; have h5 := hxm.1; have : x.1.length ≠ 0 := fun e => this (List.eq_nil_of_length_eq_zero e); simp; omega
            rw [hd0] at HCA
            have HTK := Lib.hid htk
            have g1 : (0 : Int) ≤ k := by omega
            have g2 : (k : Int) < n := by omega
            clear ht1 ht2 ht3 ht4 ht5 hct2 hsub hsl hxm hnk hgk hx hpc hd0 htk
            go_wp2_with fail
            refine HCA.out.mono ?_
            rintro e w5 ⟨rfl, hte⟩
            have HT5 := Lib.hid (HT.out.trans hte)
            clear hte e1 e2
            go_wp2_with fail
            go_roundw
            case rel => exact ⟨k + 1, by omega, by go_num, by have := HT5.out; rw [List.append_assoc, ← List.map_append, ← HTK.out] at this; exact Lib.hid this⟩
            case measure => simp [RowKit.intOf]; omega
          · have hmk : k = n := by omega
            subst hmk
            have hte := HT.out
            rw [List.take_of_length_le (by rw [HN.out]; exact Nat.le_refl _), HTOT.out] at hte
            have HTE := Lib.hid hte
            clear hte
            go_wp2
            go_end0
            exact ⟨rfl, HTE.out⟩
    · rw [if_neg hc] at HLEN ⊢
      rw [List.nil_append] at HLEN ⊢
      have h1 : decide (d = 0) = false := by simp; omega
      have g3 : ¬ ((32 : Int) ≤ bl) := by omega
      have g4 : decide ((32 : Int) ≤ bl) = false := decide_eq_false g3
      rw [h1]
      obtain ⟨tot, htot⟩ : ∃ t, L ++ (ks.flatMap fun k => nodesP keccakL f k.2.1 k.2.2).map bt = t := ⟨_, rfl⟩
      rw [htot]
      have HTOT := Lib.hid htot
      have HTa := Lib.hid (show Tells B bo w L w from ⟨Below.refl _ _, hB, fun _ _ _ => rfl, p, c, HCO.out, HO.out⟩)
      clear hc htot hO hco
      have c3 := HCL.out.cell (j := 3) rfl
      have c5 := HCL.out.cell (j := 5) rfl
      go_enter Tryd.func52, Tryd.ntmps52
      go_wp2_with fail
      have HLE2 := HLEN
      go_loopw [29] (fun i wr => ∃ k : Nat, k ≤ n ∧ i = .int .i64 k ∧ Aside (Tells B bo w (L ++ ((ks.take k).flatMap fun x => nodesP keccakL f x.2.1 x.2.2).map bt) wr)) (fun i _ => n - (RowKit.intOf i).toNat)
      case atStart => exact ⟨0, Nat.zero_le _, rfl, Lib.hid (by simpa using HTa.out)⟩
      case round =>
        obtain ⟨k, hk, rfl, HT⟩ := hrel
        by_cases hlt : k < n
        · obtain ⟨x, hx⟩ : ∃ x, ks[k]? = some x := ⟨_, List.getElem?_eq_getElem (by rw [HN.out]; exact hlt)⟩
          obtain ⟨gk, hgk, hnk⟩ := HK.out k x hx
          obtain ⟨bk, oo, rfl, hAk, hpc⟩ := HOR.out.resolve_left (fun e => by have := HPL.out; rw [e] at this; simp at this; omega)
          have hxm := HSP.out x (List.mem_of_getElem? hx)
          obtain ⟨ht1, ht2, ht3, pk, ck, ht4, ht5⟩ := HT.out
          have e1 := (World.cell?_of_block (a := ⟨bk, oo + k, none⟩) (ht3 bk (HA.out bk hAk).1 (HA.out bk hAk).2.1)).trans (hpc k gk hgk)
          unfold ptrN at e1
          have hct2 := HCT.out.kept (ht3 bt_ hbt (Ne.symm hne))
          have e2 := hct2.cell (j := 0) rfl
          have htk : (ks.take (k + 1)).flatMap (fun x => nodesP keccakL f x.2.1 x.2.2) = (ks.take k).flatMap (fun x => nodesP keccakL f x.2.1 x.2.2) ++ nodesP keccakL f x.2.1 x.2.2 := by rw [List.take_add_one, hx]; simp
          have hsub : (ks.take k).flatMap (fun x => nodesP keccakL f x.2.1 x.2.2) ++ nodesP keccakL f x.2.1 x.2.2 <+: ks.flatMap (fun x => nodesP keccakL f x.2.1 x.2.2) := by
            rw [← htk]
            conv => rhs; rw [← List.take_append_drop (k + 1) ks, List.flatMap_append]
            exact List.prefix_append _ _
          have hsl := hsub.length_le
          rw [List.length_append] at hsl
          have HCA := Lib.hid (HIH.out x.2.1 x.2.2 gk bo bt_ B _ pk ck A wr (hnk.kept (fun k hk => ht3 k (HA.out k hk).1 (HA.out k hk).2.1) (fun _ h => h)) HA.out hbo hbt hne ht2 ht4 hct2 ht5 hxm.2.2.2.1 (by have := HLE2.out; simp only [List.length_append, List.length_map] at this ⊢; omega))
          have hd0 : decide (x.2.2 = 0) = false := by have := hxm.2.1; have h5 := hxm.1; have : x.1.length ≠ 0 := fun e => this (List.eq_nil_of_length_eq_zero e); simp; omega
          rw [hd0] at HCA
          have HTK := Lib.hid htk
          have g1 : (0 : Int) ≤ k := by omega
          have g2 : (k : Int) < n := by omega
          clear ht1 ht2 ht3 ht4 ht5 hct2 hsub hsl hxm hnk hgk hx hpc hd0 htk
          go_wp2_with fail
          refine HCA.out.mono ?_
          rintro e w5 ⟨rfl, hte⟩
          have HT5 := Lib.hid (HT.out.trans hte)
          clear hte e1 e2
          go_wp2_with fail
          go_roundw
          case rel => exact ⟨k + 1, by omega, by go_num, by have := HT5.out; rw [List.append_assoc, ← List.map_append, ← HTK.out] at this; exact Lib.hid this⟩
          case measure => simp [RowKit.intOf]; omega
        · have hmk : k = n := by omega
          subst hmk
          have hte := HT.out
          rw [List.take_of_length_le (by rw [HN.out]; exact Nat.le_refl _), HTOT.out] at hte
          have HTE := Lib.hid hte
          clear hte
          go_wp2
          go_end0
          exact ⟨rfl, HTE.out⟩
set_option maxRecDepth 100000 in
set_option maxHeartbeats 6400000 in
theorem trieNodes_any (ps : List PairD) (v : Value) (w : World) (hv : Pairs w v ps) (hN : ps.length ≤ 1099511627775) (hB : ∀ q ∈ ps, q.1.length ≤ 1099511627776 ∧ q.2.length ≤ 1099511627776) (hK : KecT w) :
    Calls Tryd.prog 32 #[v] w (TextsR w (nodesR ps).1 (nodesR ps).2) := by
  have H1 := Lib.hid (trieRight_any ps v w hv hN hB)
  unfold nodesR
  obtain ⟨b, hb⟩ : ∃ b, rightP ps = b := ⟨_, rfl⟩
  rw [hb] at H1 ⊢
  cases b with
  | false =>
    show Calls _ _ _ _ (TextsR w [] 60)
    clear hv hb hB hN hK
    go_enter Tryd.func32, Tryd.ntmps32
    go_wp2_with fail
    refine H1.out.mono ?_
    rintro e w1 ⟨rfl, hb1⟩
    have HB1 := Lib.hid hb1
    clear hb1
    go_wp2
    go_ret2
    exact ⟨none, 0, rfl, OwnS.nil _ _, HB1.out⟩
  | true =>
    obtain ⟨tot, htot⟩ : ∃ t, (match ps with | [] => [] | _ => nodesP keccakL 129 ps 0) = t := ⟨_, rfl⟩
    show Calls _ _ _ _ (TextsR w (match ps with | [] => [] | _ => nodesP keccakL 129 ps 0) 0)
    rw [htot]
    have HV := Lib.hid hv
    have HRO : Hid (∀ W, Below w.heap.size w W → Calls Tryd.prog 50 #[v] W (RootIs W ps)) := Lib.hid fun W h => trieRoot_any ps v W (hv.after h) hb (hK.belowP h)
    have HRT := Lib.hid hb
    have HTO := Lib.hid htot
    clear hv hb hB hN hK htot
    go_enter Tryd.func32, Tryd.ntmps32
    go_wp2_with fail
    refine H1.out.mono ?_
    rintro e w1 ⟨rfl, hb1⟩
    have HB1 := Lib.hid hb1
    clear hb1
    go_wp2_with fail
    obtain ⟨w2, hw2⟩ : ∃ W, (w1.alloc (.cells #[.slice none 0 0] 23)).alloc (.cells #[.func (.func 52) #[] #[.pointer (some ⟨w1.heap.size, 0, none⟩), .pointer (some ⟨w1.heap.size + 1, 0, none⟩)]] 77) = W := ⟨_, rfl⟩
    have hbt : HasCells w2 (w1.heap.size + 1) [.func (.func 52) #[] #[.pointer (some ⟨w1.heap.size, 0, none⟩), .pointer (some ⟨w1.heap.size + 1, 0, none⟩)]] 77 := by
      have h := HasCells.new (w1.alloc (.cells #[.slice none 0 0] 23)) [.func (.func 52) #[] #[.pointer (some ⟨w1.heap.size, 0, none⟩), .pointer (some ⟨w1.heap.size + 1, 0, none⟩)]] 77
      rw [World.size_alloc] at h
      rw [← hw2]
      exact h
    have hbo : HasCells w2 w1.heap.size [.slice none 0 0] 23 := by rw [← hw2]; exact (HasCells.new w1 [.slice none 0 0] 23).alloc _
    have hb2 : Below w1.heap.size w1 w2 := by rw [← hw2]; exact laid2 w1 _ _
    rw [hw2]
    have HBT := Lib.hid hbt
    have HBO := Lib.hid hbo
    have HS2 := Lib.hid hb2
    have HB2 := Lib.hid (HB1.out.trans (hb2.mono HB1.out.size))
    clear hbt hbo hb2 hw2
    refine (HRO.out _ HB2.out).mono ?_
    rintro e w3 ⟨hb3, ⟨he, rfl⟩ | ⟨hne, g, qs, rfl, hpm, hn⟩⟩
    · have hto : tot = [] := by rw [← HTO.out, he]
      subst hto
      have HB3 := Lib.hid (HB2.out.trans (hb3.mono HB2.out.size))
      have c0 := (HBO.out.after hb3).cell (j := 0) rfl
      clear hb3
      go_wp2
      go_ret2
      exact TextsR.of (B := w.heap.size) (OwnS.nil _ _) (Nat.le_refl _) HB3.out
    · have hrq : rightP qs = true := (right_perm hpm).trans HRT.out
      have hqne : qs ≠ [] := fun e => hne (List.nil_perm.1 (e ▸ hpm))
      have hval := (right_valid hrq hqne).1
      have hnp : nodesP keccakL 129 qs 0 = tot := by
        rw [← HTO.out, nodes_perm 129 hpm (right_even hrq)]
        cases ps with
        | nil => exact absurd rfl hne
        | cons a r => rfl
      have hnl := nodes_len (K := keccakL) 129 qs 0 hqne
      have hql := right_len hrq
      have HB3 := Lib.hid (HB2.out.trans (hb3.mono HB2.out.size))
      have hbt := HBT.out.after hb3
      have hbo := HBO.out.after hb3
      have e0 := hbt.cell (j := 0) rfl
      have b1 := HBT.out.lt
      have b2 := hb3.size
      have HTL := Lib.hid (tell_any 129 qs 0 g w1.heap.size (w1.heap.size + 1) w3.heap.size [] none 0 _ w3 hn (fun k hk => ⟨hk.2, by omega, by omega⟩) (by omega) (by omega) (by omega) (Nat.le_refl _) hbo hbt (OwnS.nil _ _) hval (by simp; omega))
      rw [show decide (0 = 0) = true from rfl, List.nil_append, hnp] at HTL
      clear hb3 hrq hqne hval hnp hnl hql hbt hbo hn hpm hne
      go_wp2_with fail
      refine HTL.out.mono ?_
      rintro e w4 ⟨rfl, hb4, hs4, -, p4, c4, hc4, ho4⟩
      have HB4 := Lib.hid (HB3.out.trans (hb4.mono (by have := HB1.out.size; omega)))
      rw [List.length_map] at ho4 hc4
      have HO4 := Lib.hid ho4
      have c0 := hc4.cell (j := 0) rfl
      clear hb4 hs4 hc4 ho4 e0
      go_wp2
      go_ret2
      exact TextsR.of HO4.out HB3.out.size HB4.out
end Go.Proofs.YthicdhnjincflaaDoor

namespace Go.Proofs.YthicdhnjincflaaDoor
open Go.RowKit Go.Shelf Go.Lib
attribute [local go_sem] Oper.semAt_some
set_option maxHeartbeats 1600000 in
theorem four06_any (w : World) : Calls Tryd.prog 49 #[] w fun e w' => (∃ v, e = .returned v ∧ Pairs w' v fourP) ∧ Below w.heap.size w w' := by
  have hc := HasCells.new w [.string ⟨#[100, 111]⟩, .string ⟨#[118, 101, 114, 98]⟩, .string ⟨#[100, 111, 103]⟩, .string ⟨#[112, 117, 112, 112, 121]⟩, .string ⟨#[100, 111, 103, 101]⟩, .string ⟨#[99, 111, 105, 110]⟩, .string ⟨#[104, 111, 114, 115, 101]⟩, .string ⟨#[115, 116, 97, 108, 108, 105, 111, 110]⟩] 66
  have HC := Lib.hid hc
  clear hc
  go_enter Tryd.func49, Tryd.ntmps49
  go_wp2_with fail
  go_ret
  refine ⟨⟨_, rfl, _, _, rfl, Nat.le_refl _, .inr ⟨_, 0, rfl, HC.out.lt, ?_⟩⟩, laid1 w _⟩
  intro j q hq
  have hlt := (List.getElem?_eq_some_iff.1 hq).1
  have hj : j < 4 := hlt
  match j, hj, hq with
  | 0, _, hq => cases hq; exact ⟨HC.out.cell (j := 0) rfl, HC.out.cell (j := 1) rfl⟩
  | 1, _, hq => cases hq; exact ⟨HC.out.cell (j := 2) rfl, HC.out.cell (j := 3) rfl⟩
  | 2, _, hq => cases hq; exact ⟨HC.out.cell (j := 4) rfl, HC.out.cell (j := 5) rfl⟩
  | 3, _, hq => cases hq; exact ⟨HC.out.cell (j := 6) rfl, HC.out.cell (j := 7) rfl⟩
set_option maxRecDepth 100000 in
set_option maxHeartbeats 6400000 in
theorem some06_any (v : Value) (ps : List PairD) (w : World) (hv : Pairs w v ps) (hN : ps.length ≤ 1099511627776) :
    Calls Tryd.prog 27 #[v] w fun e w' => ∃ p c, e = .returned (.slice p (fewP 40 ps).length c) ∧ OwnP w.heap.size w' (.slice p (fewP 40 ps).length c) (fewP 40 ps) ∧ Below w.heap.size w w' := by
  obtain ⟨p, c, rfl, hc, hcell⟩ := hv
  have HC := Lib.hid hcell
  obtain ⟨n, hn⟩ : ∃ n, ps.length = n := ⟨_, rfl⟩
  obtain ⟨m, hm⟩ : ∃ m, (fewP 40 ps).length = m := ⟨_, rfl⟩
  have hmn : m = min 40 n := by rw [← hm, ← hn]; unfold fewP; rw [List.length_map, List.length_take]
  rw [hn] at hc ⊢
  rw [hn] at hN
  rw [hm]
  have HN := Lib.hid hn
  have HM := Lib.hid hm
  have HMN := Lib.hid hmn
  clear hcell hn hm hmn
  go_enter Tryd.func27, Tryd.ntmps27
  go_wp2_with fail
  go_loopw [3, 4] (fun v i wr => ∃ k : Nat, k ≤ m ∧ i = .int .i64 k ∧ Aside (OwnP w.heap.size wr v ((fewP 40 ps).take k)) ∧ Aside (Below w.heap.size w wr)) (fun _ i _ => m - (RowKit.intOf i).toNat)
  case atStart => exact ⟨0, Nat.zero_le _, rfl, OwnP.nil _ _, Below.refl _ _⟩
  case round =>
    obtain ⟨k, hk, rfl, HO, HB⟩ := hrel
    by_cases hlt : k < m
    · have hkn : k < n := by have := HMN.out; omega
      have hk40 : k < 40 := by have := HMN.out; omega
      obtain ⟨s, hs⟩ : ∃ s, ps[k]? = some s := ⟨_, List.getElem?_eq_getElem (by rw [HN.out]; exact hkn)⟩
      obtain ⟨bk, o, rfl, hbk, hcl⟩ : ∃ bk o, p = some ⟨bk, o, none⟩ ∧ bk < w.heap.size ∧ ∀ (j : Nat) q, ps[j]? = some q → w.cell? ⟨bk, o + j * 2, none⟩ = some (.string ⟨q.1.toArray⟩) ∧ w.cell? ⟨bk, o + j * 2 + 1, none⟩ = some (.string ⟨q.2.toArray⟩) := by
        rcases HC.out with h | ⟨bk, o, h1, h2, h3⟩
        · have h4 := congrArg List.length h
          rw [HN.out] at h4
          simp at h4
          omega
        · exact ⟨bk, o, h1, h2, h3⟩
      have hS : ∀ W, Below w.heap.size w W → W.cell? ⟨bk, o + k * 2, none⟩ = some (.string ⟨s.1.toArray⟩) ∧ W.cell? ⟨bk, o + k * 2 + 1, none⟩ = some (.string ⟨s.2.toArray⟩) := fun W hb => ⟨(hb.cell (p := ⟨bk, o + k * 2, none⟩) hbk).trans (hcl k _ hs).1, (hb.cell (p := ⟨bk, o + k * 2 + 1, none⟩) hbk).trans (hcl k _ hs).2⟩
      have HS := Lib.hid hS
      have hts : (fewP 40 ps).take (k + 1) = (fewP 40 ps).take k ++ [(s.1, s.2.take 100)] := fewP_take hs hk40
      have hll : ((fewP 40 ps).take k).length = k := by rw [List.length_take, HM.out]; omega
      obtain ⟨L, hL⟩ : ∃ L, (fewP 40 ps).take k = L := ⟨_, rfl⟩
      have ho := HO.out
      rw [hL] at hts hll ho
      obtain ⟨pv, cv, hv⟩ := ho.form
      rw [hll] at hv
      subst hv
      have HO1 := Lib.hid ho
      have HTS := Lib.hid hts
      have HLL := Lib.hid hll
      have g1 : (0 : Int) ≤ k := by omega
      have g2 : (k : Int) < n := by omega
      have g3 : (k : Int) < 40 := by omega
      obtain ⟨ky, vl⟩ := s
      have hsz : (⟨vl.toArray⟩ : ByteArray).size = vl.length := rfl
      dsimp only at HS HTS
      clear ho hts hll hL HO hcl hs hS hkn hk40
      obtain ⟨q, hq⟩ : ∃ q, min vl.length 100 = q := ⟨_, rfl⟩
      have h4 : min (vl.length : Int) 100 = (q : Int) := by omega
      have h5 : (0 : Int) ≤ (q : Int) := by omega
      have h6 : (q : Int) ≤ (vl.length : Int) := by omega
      have hx := extract_bt vl q
      rw [show vl.take q = vl.take 100 by rw [← hq, take_minL]] at hx
      have HX := Lib.hid hx
      clear hx hq
      go_wp2_with fail
      refine wp_region_held_drew (S := (fun W => W.cell? ⟨bk, o + k * 2, none⟩ = some (.string ⟨ky.toArray⟩) ∧ W.cell? ⟨bk, o + k * 2 + 1, none⟩ = some (.string ⟨vl.toArray⟩))) (by kernel_rfl) (HS.out _ HB.out.drew) (fun hHeld => ?_)
      refine wpAnyH_take (i := 0) (v := ?_) rfl (by kernel_rfl) (by kernel_rfl) (by kernel_rfl) (fun _ _ _ h => h) (.inl ⟨by rfl, ?_⟩) (by assumption) ?_
      rotate_left 1
      · intro w0 hSw
        go_simp <;> with_reducible rfl
      try simp only [Act.put, List.getElem_toArray, List.getElem_cons_zero, List.setIfInBounds_toArray, List.set_cons_zero, List.set_cons_succ]
      refine wpAnyH_take (i := 1) (v := ?_) rfl (by kernel_rfl) (by kernel_rfl) (by kernel_rfl) (fun _ _ _ h => h) (.inl ⟨by rfl, ?_⟩) (by assumption) ?_
      rotate_left 1
      · intro w0 hSw
        go_simp <;> with_reducible rfl
      try simp only [Act.put, List.getElem_toArray, List.getElem_cons_zero, List.getElem_cons_succ, List.setIfInBounds_toArray, List.set_cons_zero, List.set_cons_succ]
      refine wpAnyH_take (i := 2) (v := ?_) rfl (by kernel_rfl) (by kernel_rfl) (by kernel_rfl) (fun _ _ _ h => h) (.inl ⟨by rfl, ?_⟩) (by assumption) ?_
      rotate_left 1
      · intro w0 hSw
        go_simp <;> with_reducible rfl
      try simp only [Act.put, List.getElem_toArray, List.getElem_cons_zero, List.getElem_cons_succ, List.setIfInBounds_toArray, List.set_cons_zero, List.set_cons_succ]
      refine wpAnyH_take (i := 3) (v := ?_) rfl (by kernel_rfl) (by kernel_rfl) (by kernel_rfl) (fun _ _ _ h => h) (.inl ⟨by rfl, ?_⟩) (by assumption) ?_
      rotate_left 1
      · intro w0 hSw
        go_simp <;> with_reducible rfl
      try simp only [Act.put, List.getElem_toArray, List.getElem_cons_zero, List.getElem_cons_succ, List.setIfInBounds_toArray, List.set_cons_zero, List.set_cons_succ]
      refine wpAnyH_take (i := 4) (v := ?_) rfl (by kernel_rfl) (by kernel_rfl) (by kernel_rfl) (fun _ _ _ h => h) (.inl ⟨by rfl, ?_⟩) (by assumption) ?_
      rotate_left 1
      · intro w0 hSw
        go_simp <;> with_reducible rfl
      try simp only [Act.put, List.getElem_toArray, List.getElem_cons_zero, List.getElem_cons_succ, List.setIfInBounds_toArray, List.set_cons_zero, List.set_cons_succ]
      refine wpAnyH_take (i := 5) (v := ?_) rfl (by kernel_rfl) (by kernel_rfl) (by kernel_rfl) (fun _ _ _ h => h) (.inl ⟨by rfl, ?_⟩) (by assumption) ?_
      rotate_left 1
      · intro w0 hSw
        obtain ⟨z0, z1⟩ := hSw
        go_simp <;> with_reducible rfl
      try simp only [Act.put, List.getElem_toArray, List.getElem_cons_zero, List.getElem_cons_succ, List.setIfInBounds_toArray, List.set_cons_zero, List.set_cons_succ]
      refine wpAnyH_take (i := 6) (v := ?_) rfl (by kernel_rfl) (by kernel_rfl) (by kernel_rfl) (fun _ _ _ h => h) (.inl ⟨by rfl, ?_⟩) (by assumption) ?_
      rotate_left 1
      · intro w0 hSw
        go_simp <;> with_reducible rfl
      try simp only [Act.put, List.getElem_toArray, List.getElem_cons_zero, List.getElem_cons_succ, List.setIfInBounds_toArray, List.set_cons_zero, List.set_cons_succ]
      refine wpAnyH_take (i := 7) (v := ?_) rfl (by kernel_rfl) (by kernel_rfl) (by kernel_rfl) (fun _ _ _ h => h) (.inl ⟨by rfl, ?_⟩) (by assumption) ?_
      rotate_left 1
      · intro w0 hSw
        go_simp <;> with_reducible rfl
      try simp only [Act.put, List.getElem_toArray, List.getElem_cons_zero, List.getElem_cons_succ, List.setIfInBounds_toArray, List.set_cons_zero, List.set_cons_succ]
      refine wpAnyH_take (i := 8) (v := ?_) rfl (by kernel_rfl) (by kernel_rfl) (by kernel_rfl) (fun _ _ _ h => h) (.inl ⟨by rfl, ?_⟩) (by assumption) ?_
      rotate_left 1
      · intro w0 hSw
        go_simp <;> with_reducible rfl
      try simp only [Act.put, List.getElem_toArray, List.getElem_cons_zero, List.getElem_cons_succ, List.setIfInBounds_toArray, List.set_cons_zero, List.set_cons_succ]
      refine wpAnyH_take (i := 9) (v := ?_) rfl (by kernel_rfl) (by kernel_rfl) (by kernel_rfl) (fun _ _ _ h => h) (.inl ⟨by rfl, ?_⟩) (by assumption) ?_
      rotate_left 1
      · intro w0 hSw
        go_simp <;> with_reducible rfl
      try simp only [Act.put, List.getElem_toArray, List.getElem_cons_zero, List.getElem_cons_succ, List.setIfInBounds_toArray, List.set_cons_zero, List.set_cons_succ]
      refine wpAnyH_take (i := 10) (v := ?_) rfl (by kernel_rfl) (by kernel_rfl) (by kernel_rfl) (fun _ _ _ h => h) (.inl ⟨by rfl, ?_⟩) (by assumption) ?_
      rotate_left 1
      · intro w0 hSw
        obtain ⟨z0, z1⟩ := hSw
        go_simp <;> with_reducible rfl
      try simp only [Act.put, List.getElem_toArray, List.getElem_cons_zero, List.getElem_cons_succ, List.setIfInBounds_toArray, List.set_cons_zero, List.set_cons_succ]
      refine wpAnyH_take (i := 11) (v := ?_) rfl (by kernel_rfl) (by kernel_rfl) (by kernel_rfl) (fun _ _ _ h => h) (.inl ⟨by rfl, ?_⟩) (by assumption) ?_
      rotate_left 1
      · intro w0 hSw
        go_simp <;> with_reducible rfl
      try simp only [Act.put, List.getElem_toArray, List.getElem_cons_zero, List.getElem_cons_succ, List.setIfInBounds_toArray, List.set_cons_zero, List.set_cons_succ]
      refine wpAnyH_take (i := 12) (v := ?_) rfl (by kernel_rfl) (by kernel_rfl) (by kernel_rfl) (fun _ _ _ h => h) (.inl ⟨by rfl, ?_⟩) (by assumption) ?_
      rotate_left 1
      · intro w0 hSw
        go_simp <;> with_reducible rfl
      try simp only [Act.put, List.getElem_toArray, List.getElem_cons_zero, List.getElem_cons_succ, List.setIfInBounds_toArray, List.set_cons_zero, List.set_cons_succ]
      refine wpAnyH_take (i := 13) (v := ?_) rfl (by kernel_rfl) (by kernel_rfl) (by kernel_rfl) (fun _ _ _ h => h) (.inl ⟨by rfl, ?_⟩) (by assumption) ?_
      rotate_left 1
      · intro w0 hSw
        go_simp <;> with_reducible rfl
      try simp only [Act.put, List.getElem_toArray, List.getElem_cons_zero, List.getElem_cons_succ, List.setIfInBounds_toArray, List.set_cons_zero, List.set_cons_succ]
      refine wpAnyH_take (i := 14) (v := ?_) rfl (by kernel_rfl) (by kernel_rfl) (by kernel_rfl) (fun _ _ _ h => h) (.inl ⟨by rfl, ?_⟩) (by assumption) ?_
      rotate_left 1
      · intro w0 hSw
        go_simp <;> with_reducible rfl
      try simp only [Act.put, List.getElem_toArray, List.getElem_cons_zero, List.getElem_cons_succ, List.setIfInBounds_toArray, List.set_cons_zero, List.set_cons_succ]
      refine wpAnyH_take (i := 15) (v := ?_) rfl (by kernel_rfl) (by kernel_rfl) (by kernel_rfl) (fun _ _ _ h => h) (.inl ⟨by rfl, ?_⟩) (by assumption) ?_
      rotate_left 1
      · intro w0 hSw
        obtain ⟨z0, z1⟩ := hSw
        go_simp <;> with_reducible rfl
      try simp only [Act.put, List.getElem_toArray, List.getElem_cons_zero, List.getElem_cons_succ, List.setIfInBounds_toArray, List.set_cons_zero, List.set_cons_succ]
      refine wpAnyH_take (i := 16) (v := ?_) rfl (by kernel_rfl) (by kernel_rfl) (by kernel_rfl) (fun _ _ _ h => h) (.inl ⟨by rfl, ?_⟩) (by assumption) ?_
      rotate_left 1
      · intro w0 hSw
        go_simp <;> with_reducible rfl
      try simp only [Act.put, List.getElem_toArray, List.getElem_cons_zero, List.getElem_cons_succ, List.setIfInBounds_toArray, List.set_cons_zero, List.set_cons_succ]
      refine wpAnyH_take (i := 17) (v := ?_) rfl (by kernel_rfl) (by kernel_rfl) (by kernel_rfl) (fun _ _ _ h => h) (.inl ⟨by rfl, ?_⟩) (by assumption) ?_
      rotate_left 1
      · intro w0 hSw
        go_simp <;> with_reducible rfl
      try simp only [Act.put, List.getElem_toArray, List.getElem_cons_zero, List.getElem_cons_succ, List.setIfInBounds_toArray, List.set_cons_zero, List.set_cons_succ]
      refine wpAnyH_take (i := 18) (v := ?_) rfl (by kernel_rfl) (by kernel_rfl) (by kernel_rfl) (fun _ _ _ h => h) (.inl ⟨by rfl, ?_⟩) (by assumption) ?_
      rotate_left 1
      · intro w0 hSw
        go_simp <;> with_reducible rfl
      try simp only [Act.put, List.getElem_toArray, List.getElem_cons_zero, List.getElem_cons_succ, List.setIfInBounds_toArray, List.set_cons_zero, List.set_cons_succ]
      refine wpAnyH_take (i := 19) (v := ?_) rfl (by kernel_rfl) (by kernel_rfl) (by kernel_rfl) (fun _ _ _ h => h) (.inl ⟨by rfl, ?_⟩) (by assumption) ?_
      rotate_left 1
      · intro w0 hSw
        go_simp <;> with_reducible rfl
      try simp only [Act.put, List.getElem_toArray, List.getElem_cons_zero, List.getElem_cons_succ, List.setIfInBounds_toArray, List.set_cons_zero, List.set_cons_succ]
      refine wpAnyH_ready (rs := [20]) (by kernel_rfl) (by simp) ?_
      refine AllReadyH.cons rfl (fun K hK => ?_) AllReadyH.nil
      go_simp
      obtain ⟨w2, hal⟩ : ∃ W, (wr.alloc (.cells #[.string ⟨ky.toArray⟩, .string ((⟨vl.toArray⟩ : ByteArray).extract 0 q)] 66)).drew = W := ⟨_, rfl⟩
      have hb2 : Below wr.heap.size wr w2 := by rw [← hal]; exact (laid1 wr _).drew
      have b2 : Below w.heap.size w w2 := HB.out.trans (hb2.mono HB.out.size)
      have HO2 := Lib.hid (HO1.out.after hb2)
      have hn2 : HasCells w2 wr.heap.size [.string ⟨ky.toArray⟩, .string ((⟨vl.toArray⟩ : ByteArray).extract 0 q)] 66 := by rw [← hal]; exact (HasCells.new wr [.string ⟨ky.toArray⟩, .string ((⟨vl.toArray⟩ : ByteArray).extract 0 q)] 66).kept rfl
      rw [HX.out] at hn2
      have HN2 := Lib.hid hn2
      have HB2 := Lib.hid b2
      rw [hal]
      clear hal hn2 b2 hb2
      refine hK.out _ _ (HS.out _ HB2.out) (fun hHeld => ?_)
      clear hK K
      try simp only [Act.put, List.getElem_toArray, List.getElem_cons_zero, List.getElem_cons_succ, List.setIfInBounds_toArray, List.set_cons_zero, List.set_cons_succ]
      refine wpAnyH_ready (rs := [21]) (by kernel_rfl) (by simp) ?_
      refine AllReadyH.cons rfl (fun K hK => ?_) AllReadyH.nil
      refine step_appendP (by rfl) _ _ rfl w.heap.size _ L rfl HO2.out ⟨wr.heap.size, 0, none⟩ 1 (ky, vl.take 100) rfl ?f0 ?f1 ?f2 ?_
      case f0 => exact fun j u hu => by rw [addr_add]; exact HN2.out.cell hu
      case f1 => rw [HLL.out]; omega
      case f2 => exact HB2.out.size
      intro v3 w3 ho3 hg3
      have b3 : Below w.heap.size w w3 := HB2.out.grown hg3 HB2.out.size (fun q e => (HO2.out.lt q e).1)
      have ho3b : OwnP w.heap.size w3 v3 ((fewP 40 ps).take (k + 1)) := by rw [HTS.out]; exact ho3
      have HO3 := Lib.hid ho3b
      have HB3 := Lib.hid b3
      clear ho3 hg3 ho3b b3
      refine hK.out _ _ (HS.out _ HB3.out) (fun hHeld => ?_)
      clear hK K
      try simp only [Act.put, List.getElem_toArray, List.getElem_cons_zero, List.getElem_cons_succ, List.setIfInBounds_toArray, List.set_cons_zero, List.set_cons_succ]
      refine wpAnyH_take (i := 22) (v := ?_) rfl (by kernel_rfl) (by kernel_rfl) (by kernel_rfl) (fun _ _ _ h => h) (.inl ⟨by rfl, ?_⟩) (by assumption) ?_
      rotate_left 1
      · intro w0 hSw
        go_simp <;> with_reducible rfl
      try simp only [Act.put, List.getElem_toArray, List.getElem_cons_zero, List.getElem_cons_succ, List.setIfInBounds_toArray, List.set_cons_zero, List.set_cons_succ]
      refine wpAnyH_done (by kernel_rfl) ?_ 0
      go_wp2_with fail
      go_roundw
      case rel => exact ⟨k + 1, by omega, by go_num, HO3.out, HB3.out⟩
      case measure => simp [RowKit.intOf]; omega
    · have hmk : k = m := by omega
      subst hmk
      have ho := HO.out
      rw [List.take_of_length_le (by rw [HM.out]; exact Nat.le_refl _)] at ho
      obtain ⟨pv, cv, hv⟩ := ho.form
      rw [HM.out] at hv
      subst hv
      have HO1 := Lib.hid ho
      clear ho HO
      by_cases hkn : k < n
      · have g2 : (k : Int) < n := by omega
        have g3 : ¬ (k : Int) < 40 := by have := HMN.out; omega
        go_wp2
        go_ret
        exact ⟨_, _, rfl, HO1.out, HB.out⟩
      · have g2 : ¬ (k : Int) < n := by omega
        go_wp2
        go_ret
        exact ⟨_, _, rfl, HO1.out, HB.out⟩
set_option maxRecDepth 100000 in
set_option maxHeartbeats 3200000 in
theorem turned_any (ps : List PairD) (v : Value) (w : World) (hv : Pairs w v ps) (hN : ps.length ≤ 1099511627776) :
    Calls Tryd.prog 28 #[v] w fun e w' => ∃ p c, e = .returned (.slice p ps.length c) ∧ OwnP w.heap.size w' (.slice p ps.length c) ps.reverse ∧ Below w.heap.size w w' := by
  obtain ⟨p, c, rfl, hc, hcell⟩ := hv
  have HC := Lib.hid hcell
  obtain ⟨n, hn⟩ : ∃ n, ps.length = n := ⟨_, rfl⟩
  rw [hn] at hc hN ⊢
  have HN := Lib.hid hn
  have i0 : IntKind.i64.wrap ((n : Int) - 1) = (n : Int) - 1 := by rw [IntKind.wrap_i64]; omega
  clear hcell hn
  go_enter Tryd.func28, Tryd.ntmps28
  go_wp2_with fail
  go_loopw [3, 4] (fun v i wr => ∃ k m : Nat, k + m = n ∧ i = .int .i64 ((m : Int) - 1) ∧ Aside (OwnP w.heap.size wr v (ps.reverse.take k)) ∧ Aside (Below w.heap.size w wr)) (fun _ i _ => (RowKit.intOf i + 1).toNat)
  case atStart => exact ⟨0, n, by omega, rfl, OwnP.nil _ _, Below.refl _ _⟩
  case round =>
    obtain ⟨k, m, hk, rfl, HO, HB⟩ := hrel
    cases m with
    | zero =>
      have hmk : k = n := by omega
      subst hmk
      have ho := HO.out
      rw [List.take_of_length_le (by rw [List.length_reverse, HN.out]; exact Nat.le_refl _)] at ho
      obtain ⟨pv, cv, hv⟩ := ho.form
      rw [List.length_reverse, HN.out] at hv
      subst hv
      have HO1 := Lib.hid ho
      rw [show (((0 : Nat) : Int) - 1) = -1 from rfl]
      clear ho HO
      go_wp2
      go_ret
      exact ⟨_, _, rfl, HO1.out, HB.out⟩
    | succ m =>
      obtain ⟨s, hs⟩ : ∃ s, ps[m]? = some s := ⟨_, List.getElem?_eq_getElem (by rw [HN.out]; omega)⟩
      obtain ⟨bk, o, rfl, hbk, hcl⟩ : ∃ bk o, p = some ⟨bk, o, none⟩ ∧ bk < w.heap.size ∧ ∀ (j : Nat) q, ps[j]? = some q → w.cell? ⟨bk, o + j * 2, none⟩ = some (.string ⟨q.1.toArray⟩) ∧ w.cell? ⟨bk, o + j * 2 + 1, none⟩ = some (.string ⟨q.2.toArray⟩) := by
        rcases HC.out with h | ⟨bk, o, h1, h2, h3⟩
        · have h4 := congrArg List.length h
          rw [HN.out] at h4
          simp at h4
          omega
        · exact ⟨bk, o, h1, h2, h3⟩
      have c0 := (HB.out.cell (p := ⟨bk, o + m * 2, none⟩) hbk).trans (hcl m _ hs).1
      have c1 := (HB.out.cell (p := ⟨bk, o + m * 2 + 1, none⟩) hbk).trans (hcl m _ hs).2
      have hts : ps.reverse.take (k + 1) = ps.reverse.take k ++ [s] := by
        rw [List.take_add_one, List.getElem?_reverse (by rw [HN.out]; omega), HN.out, show n - 1 - k = m by omega, hs]
        rfl
      have hll : (ps.reverse.take k).length = k := by rw [List.length_take, List.length_reverse, HN.out]; omega
      obtain ⟨L, hL⟩ : ∃ L, ps.reverse.take k = L := ⟨_, rfl⟩
      have ho := HO.out
      rw [hL] at hts hll ho
      obtain ⟨pv, cv, hv⟩ := ho.form
      rw [hll] at hv
      subst hv
      have HO1 := Lib.hid ho
      have HTS := Lib.hid hts
      have HLL := Lib.hid hll
      obtain ⟨ky, vl⟩ := s
      dsimp only at c0 c1
      rw [show (((m + 1 : Nat) : Int) - 1) = (m : Int) by omega]
      have g1 : (0 : Int) ≤ m := by omega
      have g2 : (m : Int) < n := by omega
      have g3 : m < n := by omega
      have g4 : IntKind.i64.wrap ((m : Int) - 1) = (m : Int) - 1 := by rw [IntKind.wrap_i64]; omega
      have hws := HB.out.size
      have hkb : k ≤ 1099511627776 := by omega
      have hkm : k + 1 + m = n := by omega
      have HQ := Lib.hid (HasCells.new wr [.string ⟨ky.toArray⟩, .string ⟨vl.toArray⟩] 66)
      have HBA := Lib.hid (HB.out.alloc HB.out.size (.cells #[.string ⟨ky.toArray⟩, .string ⟨vl.toArray⟩] 66))
      have HOA := Lib.hid (ho.alloc (.cells #[.string ⟨ky.toArray⟩, .string ⟨vl.toArray⟩] 66))
      clear ho hts hll hL HO hcl hs hk
      go_wp2_with (at_builtin; refine wpList_appendP rfl _ _ rfl w.heap.size _ L rfl HOA.out ⟨wr.heap.size, 0, none⟩ 1 (ky, vl) rfl ?f0 ?f1 ?f2 ?_)
      case f0 => exact fun j u hu => by rw [addr_add]; exact HQ.out.cell hu
      case f1 => rw [HLL.out]; omega
      case f2 => exact HBA.out.size
      intro v3 w3 ho3 hg3 _
      have b3 : Below w.heap.size w w3 := HBA.out.grown hg3 HBA.out.size (fun q e => (HOA.out.lt q e).1)
      have ho3b : OwnP w.heap.size w3 v3 (ps.reverse.take (k + 1)) := by rw [HTS.out]; exact ho3
      have HO3 := Lib.hid ho3b
      have HB3 := Lib.hid b3
      clear ho3 hg3 ho3b b3 c0 c1
      go_wp2_with fail
      go_roundw
      case rel => exact ⟨k + 1, m, hkm, rfl, HO3.out, HB3.out⟩
      case measure => simp [RowKit.intOf]
theorem four_rootR : rootR fourP = (kdD, 0) := by rw [four_root, four_root06]
set_option maxRecDepth 100000 in
set_option maxHeartbeats 6400000 in
theorem shown06_any (w : World) (hK : KecT w) : Calls Tryd.prog 24 #[] w fun e w' => e = .returned (.bool true) ∧ Below w.heap.size w w' := by
  have hB4 : ∀ q ∈ fourP, q.1.length ≤ 1099511627776 ∧ q.2.length ≤ 1099511627776 := by decide
  have r1 : kdD.length = 32 := by decide
  have r2 : kdD.take 4 = [89, 145, 187, 140] := by decide
  have r3 := kecD
  obtain ⟨wt, hwt⟩ := four_way06
  obtain ⟨rt, hrt⟩ : ∃ x, kdD = x := ⟨_, rfl⟩
  obtain ⟨b0, hb0⟩ : ∃ x, ktD = x := ⟨_, rfl⟩
  have r4 : b0.length ≤ 1000 := by rw [← hb0]; decide
  obtain ⟨b1, hb1⟩ : ∃ x, ktC = x := ⟨_, rfl⟩
  rw [hb0, hb1] at hwt
  rw [hb0, hrt] at r3
  rw [hrt] at r1 r2
  have HR : Hid (∀ v W, Pairs W v fourP → KecT W → Calls Tryd.prog 29 #[v] W fun e w' => e = .returned (.tuple #[.string ⟨rt.toArray⟩, .int .i64 0]) ∧ Below W.heap.size W w') := Lib.hid fun v W hp hk => by
    have h := trieRootTop_any fourP v W hp (by decide) hB4 hk
    rw [four_rootR, hrt] at h
    exact h
  have HD : Hid (∀ v W, Pairs W v fourP → KecT W → Calls Tryd.prog 30 #[v, .string ⟨#[100, 111, 103]⟩] W (TextsR W (b0 :: b1 :: wt) 0)) := Lib.hid fun v W hp hk => by
    have h := trieProve_any fourP [100, 111, 103] v W hp (by decide) hB4 (by decide) hk
    rw [four_prove, hwt] at h
    exact h
  have HS := Lib.hid (fun W => rkSum_l r3 (by omega) W)
  have HKT := Lib.hid hK
  have hsz : (⟨rt.toArray⟩ : ByteArray).size = 32 := by rw [← r1]; rfl
  have hex : (⟨rt.toArray⟩ : ByteArray).extract 0 4 = ⟨#[89, 145, 187, 140]⟩ := by rw [extract_bt, r2]
  obtain ⟨wl, hwl⟩ : ∃ n, (b0 :: b1 :: wt).length = n := ⟨_, rfl⟩
  have g2 : (2 : Int) ≤ wl := by rw [← hwl]; simp only [List.length_cons]; omega
  have HWL := Lib.hid hwl
  clear hrt hb0 hb1 hwt r1 r2 r3 r4 hK hwl hB4
  go_enter Tryd.func24, Tryd.ntmps24
  go_wp2_with fail
  refine (four06_any _).mono ?_
  rintro e w1 ⟨⟨v1, rfl, hp1⟩, hb1⟩
  have HB1 := Lib.hid hb1
  have HP1 := Lib.hid hp1
  clear hb1 hp1
  go_wp2_with fail
  refine (HR.out _ _ HP1.out (HKT.out.belowP HB1.out)).mono ?_
  rintro e w2 ⟨rfl, hb2⟩
  have HB2 := Lib.hid (HB1.out.trans (hb2.mono HB1.out.size))
  clear hb2 HP1 HB1
  go_wp2_with fail
  refine (four06_any _).mono ?_
  rintro e w3 ⟨⟨v3, rfl, hp3⟩, hb3⟩
  have HB3 := Lib.hid (HB2.out.trans (hb3.mono HB2.out.size))
  have HP3 := Lib.hid hp3
  clear hb3 hp3 HB2
  go_wp2_with fail
  refine (HD.out _ _ HP3.out (HKT.out.belowP HB3.out)).mono ?_
  rintro e w4 ⟨p4, c4, rfl, ho4, hb4⟩
  have HB4 := Lib.hid (HB3.out.trans (hb4.mono HB3.out.size))
  obtain ⟨q4, d4, hv4, -, hor4⟩ := ho4.strs
  rw [List.length_map] at hv4
  obtain rfl : p4 = q4 := by injection hv4
  obtain ⟨bk, o, rfl, hbk, hcl⟩ := hor4.resolve_left (by simp)
  have c0 := hcl 0 _ rfl
  rw [Nat.add_zero] at c0
  rw [show bt b0 = ⟨b0.toArray⟩ from rfl] at c0
  rw [HWL.out]
  have g3 : (0 : Int) < wl := by omega
  have g4 : 0 < wl := by omega
  clear hb4 ho4 HP3 HB3 hcl hv4
  go_wp2_with fail
  refine (HS.out _).mono ?_
  rintro e w5 ⟨rfl, hb5⟩
  have HB5 := Lib.hid (HB4.out.trans (hb5.mono HB4.out.size))
  clear hb5 HB4
  go_wp2_with fail
  go_ret
  exact ⟨rfl, HB5.out⟩
end Go.Proofs.YthicdhnjincflaaDoor
