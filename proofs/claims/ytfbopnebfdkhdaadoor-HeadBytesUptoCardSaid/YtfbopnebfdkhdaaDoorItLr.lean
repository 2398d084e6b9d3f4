/- Contract of pharosref13.light: a Light's item. -/
import Derived.Test.YtfbopnebfdkhdaaDoorItL
namespace Go.Proofs.YtfbopnebfdkhdaaDoor
open Go.RowKit Go.Shelf Go.Lib
attribute [local go_sem] Oper.semAt_some

/-- the body behind its regions 0 to 4; behind 0 to 3 -/
noncomputable def rlight5 : Code := match Tryd.f68.body with
  | some (.seq _ (.seq _ (.seq _ (.seq _ (.seq _ r))))) => r
  | _ => .ret
noncomputable def rlight4 : Code := match Tryd.f68.body with
  | some (.seq _ (.seq _ (.seq _ (.seq _ r)))) => r
  | _ => .ret
set_option maxRecDepth 100000 in
set_option maxHeartbeats 6400000 in
theorem rlight_r5 (n m : Nat) (a b c d e : ByteArray) (k : Nat) (p : Option Addr) (l cp : Nat) (br : List ByteArray) (w : World) (hN : br.length ≤ 1048576) (hv : Strs w (.slice p l cp) br) (g5 g6 : Nat) (va vx : Value) (hva : ∃ p' n' c', va = .slice p' n' c') (hvx : ∃ p' n' c', vx = .slice p' n' c') (u7 u8 u9 u10 u11 u12 u13 u14 u15 u16 u17 u18 u19 u20 u21 u22 u23 u24 u25 u26 u27 u28 u29 u30 u31 u32 u33 u34 u35 u36 u37 u38 u39 u40 u41 u42 u43 u44 u45 : Value) (w4 : World) (HB4 : Hid (Below w.heap.size w w4)) (h5 : w.heap.size + 2 ≤ g5 ∧ g5 < w4.heap.size) (h6 : w.heap.size + 2 ≤ g6 ∧ g6 < w4.heap.size)
    (c5 : w4.cell? ⟨g5, 0, none⟩ = some (.bool true) ∧ w4.cell? ⟨g5, 1, none⟩ = some (.string ⟨#[]⟩) ∧ w4.cell? ⟨g5, 2, none⟩ = some (va)) (c6 : w4.cell? ⟨g6, 0, none⟩ = some (.bool true) ∧ w4.cell? ⟨g6, 1, none⟩ = some (.string ⟨#[]⟩) ∧ w4.cell? ⟨g6, 2, none⟩ = some (vx)) (c8 : w4.cell? ⟨w.heap.size, 8, none⟩ = some (.slice p l cp))
    (HZ : Hid ((w4.cell? ⟨w.heap.size + 1, 0, none⟩ = some (.bool false) ∧ w4.cell? ⟨w.heap.size + 1, 1, none⟩ = some (.string ⟨#[]⟩) ∧ w4.cell? ⟨w.heap.size + 1, 2, none⟩ = some (.slice none 0 0)) ∧ ∀ j, w4.frozen? ⟨w.heap.size + 1, j, none⟩ = false))
    (HA : RIn w4 (w.heap.size + 2) va [itN n, itN m, itT a, itT b, itT c]) (HX : RIn w4 (w.heap.size + 2) vx [itT d, itT e, itN k]) :
    rlight5.wp Tryd.prog (bodyPost Tryd.prog Tryd.f68 (GivesL w (lightItems n m a b c d e k br))) ⟨#[.agg #[.int .u64 n, .int .u64 m, .string a, .string b, .string c, .string d, .string e, .int .u64 k, .slice p l cp], .pointer (some ⟨w.heap.size, 0, none⟩), .pointer (some ⟨w.heap.size + 1, 0, none⟩), .pointer (some ⟨w.heap.size + 2, 0, none⟩), .pointer (some ⟨w.heap.size + 3, 0, none⟩), .pointer (some ⟨g5, 0, none⟩), .pointer (some ⟨g6, 0, none⟩), u7, u8, u9, u10, u11, u12, u13, u14, u15, u16, u17, u18, u19, u20, u21, u22, u23, u24, u25, u26, u27, u28, u29, u30, u31, u32, u33, u34, u35, u36, u37, u38, u39, u40, u41, u42, u43, u44, u45], []⟩ w4 := by
  obtain ⟨pa, na, ca, rfl⟩ := hva
  obtain ⟨px, nx, cx, rfl⟩ := hvx
  have HV := Lib.hid hv
  obtain ⟨lb, hl⟩ : ∃ lb, br.length = lb := ⟨_, rfl⟩
  have hll : l = lb := by obtain ⟨_, _, e, _⟩ := hv; cases e; exact hl
  have HT := Lib.hid (fun W (h : Strs W (.slice p l cp) br) => ritTexts_any (.slice p l cp) br W h hN)
  have hz4 : w.heap.size + 2 ≤ w4.heap.size := by omega
  have HS := Lib.hid (fun W (hb : Below w4.heap.size w4 W) => (show (W.cell? ⟨g5, 0, none⟩ = some (.bool true) ∧ W.cell? ⟨g5, 1, none⟩ = some (.string ⟨#[]⟩) ∧ W.cell? ⟨g5, 2, none⟩ = some (.slice pa na ca)) ∧ (W.cell? ⟨g6, 0, none⟩ = some (.bool true) ∧ W.cell? ⟨g6, 1, none⟩ = some (.string ⟨#[]⟩) ∧ W.cell? ⟨g6, 2, none⟩ = some (.slice px nx cx)) ∧ W.cell? ⟨w.heap.size, 8, none⟩ = some (.slice p l cp) from ⟨⟨(hb.cell (p := ⟨g5, 0, none⟩) h5.2).trans c5.1, (hb.cell (p := ⟨g5, 1, none⟩) h5.2).trans c5.2.1, (hb.cell (p := ⟨g5, 2, none⟩) h5.2).trans c5.2.2⟩, ⟨(hb.cell (p := ⟨g6, 0, none⟩) h6.2).trans c6.1, (hb.cell (p := ⟨g6, 1, none⟩) h6.2).trans c6.2.1, (hb.cell (p := ⟨g6, 2, none⟩) h6.2).trans c6.2.2⟩, (hb.cell (p := ⟨w.heap.size, 8, none⟩) (by dsimp only; omega)).trans c8⟩))
  have HA_4 := Lib.hid (show RIn w4.drew (w.heap.size + 2) (.slice pa na ca) [itN n, itN m, itT a, itT b, itT c] from HA.below (Below.refl _ _).drew)
  have HX_4 := Lib.hid (show RIn w4.drew (w.heap.size + 2) (.slice px nx cx) [itT d, itT e, itN k] from HX.below (Below.refl _ _).drew)
  clear c5 c6 c8 HA HX hv hl hll
  show Code.wp _ _ _ _ _
  dsimp only [rlight5, Tryd.f68]
  go_wp2_with fail
  have b4 : Below w4.heap.size w4 w4.drew := (Below.refl _ _).drew
  refine wp_region_held_drew (S := (fun W => (W.cell? ⟨g5, 0, none⟩ = some (.bool true) ∧ W.cell? ⟨g5, 1, none⟩ = some (.string ⟨#[]⟩) ∧ W.cell? ⟨g5, 2, none⟩ = some (.slice pa na ca)) ∧ (W.cell? ⟨g6, 0, none⟩ = some (.bool true) ∧ W.cell? ⟨g6, 1, none⟩ = some (.string ⟨#[]⟩) ∧ W.cell? ⟨g6, 2, none⟩ = some (.slice px nx cx)) ∧ W.cell? ⟨w.heap.size, 8, none⟩ = some (.slice p l cp))) (by kernel_rfl) (HS.out _ b4) (fun hHeld => ?_)
  refine wpAnyH_take (i := 0) (v := ?_) rfl (by kernel_rfl) (by kernel_rfl) (by kernel_rfl) (fun _ _ _ h => h) (.inl ⟨by rfl, ?_⟩) (by assumption) ?_
  rotate_left 1
  · intro w0 hSw
    obtain ⟨⟨z0, z1, z2⟩, ⟨z3, z4, z5⟩, z6⟩ := hSw
    go_simp <;> with_reducible rfl
  try simp only [Act.put, List.getElem_toArray, List.getElem_cons_zero, List.setIfInBounds_toArray, List.set_cons_zero, List.set_cons_succ]
  refine wpAnyH_take (i := 1) (v := ?_) rfl (by kernel_rfl) (by kernel_rfl) (by kernel_rfl) (fun _ _ _ h => h) (.inl ⟨by rfl, ?_⟩) (by assumption) ?_
  rotate_left 1
  · intro w0 hSw
    obtain ⟨⟨z0, z1, z2⟩, ⟨z3, z4, z5⟩, z6⟩ := hSw
    go_simp <;> with_reducible rfl
  try simp only [Act.put, List.getElem_toArray, List.getElem_cons_zero, List.getElem_cons_succ, List.setIfInBounds_toArray, List.set_cons_zero, List.set_cons_succ]
  refine wpAnyH_take (i := 2) (v := ?_) rfl (by kernel_rfl) (by kernel_rfl) (by kernel_rfl) (fun _ _ _ h => h) (.inl ⟨by rfl, ?_⟩) (by assumption) ?_
  rotate_left 1
  · intro w0 hSw
    go_simp <;> with_reducible rfl
  try simp only [Act.put, List.getElem_toArray, List.getElem_cons_zero, List.getElem_cons_succ, List.setIfInBounds_toArray, List.set_cons_zero, List.set_cons_succ]
  refine wpAnyH_take (i := 3) (v := ?_) rfl (by kernel_rfl) (by kernel_rfl) (by kernel_rfl) (fun _ _ _ h => h) (.inl ⟨by rfl, ?_⟩) (by assumption) ?_
  rotate_left 1
  · intro w0 hSw
    obtain ⟨⟨z0, z1, z2⟩, ⟨z3, z4, z5⟩, z6⟩ := hSw
    go_simp <;> with_reducible rfl
  try simp only [Act.put, List.getElem_toArray, List.getElem_cons_zero, List.getElem_cons_succ, List.setIfInBounds_toArray, List.set_cons_zero, List.set_cons_succ]
  refine wpAnyH_ready (rs := [4]) (by kernel_rfl) (by simp) ?_
  refine AllReadyH.cons rfl (fun K hK => ?_) AllReadyH.nil
  go_simp
  go_at_call 70
  refine (HT.out _ (HV.out.below (HB4.out.trans (b4.mono HB4.out.size)))).mono ?_
  rintro z w5 ⟨pt, nt, ct, rfl, hrt, hb5⟩
  have b5 : Below w4.heap.size w4 w5 := b4.trans (hb5.mono b4.size)
  have HA_5 := Lib.hid (HA_4.out.below hb5)
  have HX_5 := Lib.hid (HX_4.out.below hb5)
  clear HA_4 HX_4
  have HT2_5 := Lib.hid (RIn.mono hrt (show w.heap.size + 2 ≤ w4.drew.heap.size from hz4))
  clear hrt
  clear hb5
  refine hK.out _ _ (HS.out _ b5) (fun hHeld => ?_)
  clear hK K
  try simp only [Act.put, List.getElem_toArray, List.getElem_cons_zero, List.getElem_cons_succ, List.setIfInBounds_toArray, List.set_cons_zero, List.set_cons_succ]
  refine wpAnyH_ready (rs := [5]) (by kernel_rfl) (by simp) ?_
  refine AllReadyH.cons rfl (fun K hK => ?_) AllReadyH.nil
  go_simp
  have hal : ∃ W, w5.alloc (.cells #[.bool true, .string ⟨#[]⟩, .slice pa na ca, .bool true, .string ⟨#[]⟩, .slice px nx cx, .bool true, .string ⟨#[]⟩, .slice pt nt ct] 80) = W := ⟨_, rfl⟩
  obtain ⟨w6, hal⟩ := hal
  have hb6 : Below w5.heap.size w5 w6 := by rw [← hal]; exact (Below.refl _ _).alloc (Nat.le_refl _) _
  have b6 : Below w4.heap.size w4 w6 := b5.trans (hb6.mono b5.size)
  have HL_6 := Lib.hid (show RIn w6 (w.heap.size + 2) (.slice (some ⟨w5.heap.size, 0, none⟩) 3 3) [itL [itN n, itN m, itT a, itT b, itT c], itL [itT d, itT e, itN k], itTs br] from by
    rw [← hal]
    refine reads_new w5 (w.heap.size + 2) 3 [(itL [itN n, itN m, itT a, itT b, itT c], .slice pa na ca), (itL [itT d, itT e, itN k], .slice px nx cx), (itTs br, .slice pt nt ct)] rfl (by have := b5.size; omega) (fun q hq => ?_)
    simp only [List.mem_cons, List.not_mem_nil, or_false] at hq
    rcases hq with rfl | rfl | rfl
    · exact HA_5.out
    · exact HX_5.out
    · exact HT2_5.out)
  rw [hal]
  clear hal hb6 HA_5 HX_5 HT2_5
  refine hK.out _ _ (HS.out _ b6) (fun hHeld => ?_)
  clear hK K
  try simp only [Act.put, List.getElem_toArray, List.getElem_cons_zero, List.getElem_cons_succ, List.setIfInBounds_toArray, List.set_cons_zero, List.set_cons_succ]
  refine wpAnyH_ready (rs := [6]) (by kernel_rfl) (by simp) ?_
  refine AllReadyH.cons rfl (fun K hK => ?_) AllReadyH.nil
  go_simp
  go_at_call 67
  refine (rlist_any _ _ _ _).mono ?_
  rintro z w7 ⟨rfl, hb7⟩
  have b7 : Below w4.heap.size w4 w7 := b6.trans (hb7.mono b6.size)
  have HL_7 := Lib.hid (HL_6.out.below hb7)
  clear HL_6
  clear hb7
  refine hK.out _ _ (HS.out _ b7) (fun hHeld => ?_)
  clear hK K
  try simp only [Act.put, List.getElem_toArray, List.getElem_cons_zero, List.getElem_cons_succ, List.setIfInBounds_toArray, List.set_cons_zero, List.set_cons_succ]
  obtain ⟨⟨y0, y1, y2⟩, yf⟩ := HZ.out
  have p0 := (b7.cell (p := ⟨w.heap.size + 1, 0, none⟩) (by dsimp only; omega)).trans y0
  have p1 := (b7.cell (p := ⟨w.heap.size + 1, 1, none⟩) (by dsimp only; omega)).trans y1
  have p2 := (b7.cell (p := ⟨w.heap.size + 1, 2, none⟩) (by dsimp only; omega)).trans y2
  have f0 := (b7.frozen (p := ⟨w.heap.size + 1, 0, none⟩) (by dsimp only; omega)).trans (yf 0)
  have f1 := (b7.frozen (p := ⟨w.heap.size + 1, 1, none⟩) (by dsimp only; omega)).trans (yf 1)
  have f2 := (b7.frozen (p := ⟨w.heap.size + 1, 2, none⟩) (by dsimp only; omega)).trans (yf 2)
  clear y0 y1 y2 yf
  refine wpAnyH_ready (rs := [7]) (by kernel_rfl) (by simp) ?_
  refine AllReadyH.cons rfl (fun K hK => ?_) AllReadyH.nil
  go_simp
  refine hK.out _ _ (⟨⟨three_other hHeld.1.1 (by omega) _ _ _, three_other hHeld.1.2.1 (by omega) _ _ _, three_other hHeld.1.2.2 (by omega) _ _ _⟩, ⟨three_other hHeld.2.1.1 (by omega) _ _ _, three_other hHeld.2.1.2.1 (by omega) _ _ _, three_other hHeld.2.1.2.2 (by omega) _ _ _⟩, three_other hHeld.2.2 (by omega) _ _ _⟩) (fun hHeld => ?_)
  clear hK K
  try simp only [Act.put, List.getElem_toArray, List.getElem_cons_zero, List.getElem_cons_succ, List.setIfInBounds_toArray, List.set_cons_zero, List.set_cons_succ]
  refine wpAnyH_done (by kernel_rfl) ?_ 0
  go_wp2_with fail
  refine bodyPost_ret (results_item0 rfl _ _ (w.heap.size + 1) (.bool true) (.string ⟨#[]⟩) (.slice (some ⟨w5.heap.size, 0, none⟩) 3 3) rfl ?_ ?_ ?_) rfl ?_
  · simp [go_sem, p0]
  · simp [go_sem, p1]
  · simp [go_sem, p2]
  have hb8 : Below w.heap.size w w7 := HB4.out.trans (b7.mono HB4.out.size)
  refine ⟨_, _, _, rfl, ?_, ((hb8.setCell (p := ⟨w.heap.size + 1, 0, none⟩) (Nat.le_succ _) _).setCell (p := ⟨w.heap.size + 1, 1, none⟩) (Nat.le_succ _) _).setCell (p := ⟨w.heap.size + 1, 2, none⟩) (Nat.le_succ _) _⟩
  exact RIn.mono (((HL_7.out.store (g := w.heap.size + 1) (by omega) _).store (g := w.heap.size + 1) (by omega) _).store (g := w.heap.size + 1) (by omega) _) (by omega)
end Go.Proofs.YtfbopnebfdkhdaaDoor
