/- Contract of rlp.Decode: the item lies in blocks that the call has made. -/
import Derived.Test.YthicdhnjincflaaDoorDecA
namespace Go.Proofs.YthicdhnjincflaaDoor
open Go.RowKit Go.Shelf Go.Lib
attribute [local go_sem] Oper.semAt_some

/-- what Decode gives, in blocks of its own -/
def DecNew (s : List UInt8) (e : Ending) (w w' : World) : Prop :=
  Below w.heap.size w w' ∧ ∃ (x : Item) (n : Int) (p : Option Addr) (c : Nat), e = .returned (.tuple #[.agg #[.bool x.isList, .string ⟨x.text.toArray⟩, .slice p x.list.length c], .int .i64 n]) ∧
    Hid (decode s = (x, n)) ∧ Hid (ReadsIn w' (fun g => w.heap.size ≤ g ∧ g < w'.heap.size) (.slice p x.list.length c) x.list)
set_option maxRecDepth 100000 in
set_option maxHeartbeats 3200000 in
theorem decodeNew_any (s : List UInt8) (w : World) (hs : s.length ≤ 1099511627776) : Calls Tryd.prog 61 #[.string ⟨s.toArray⟩] w fun e w' => DecNew s e w w' := by
  by_cases hl : s.length > 65536
  · have h1 : (65536 : Int) < s.length := by omega
    have H := Lib.hid (decode_long hl)
    clear hl
    go_enter Tryd.func61, Tryd.ntmps61
    go_wp2_with fail
    refine bodyPost_ret (results_item1 rfl _ _ w.heap.size (.bool false) (.string ⟨#[]⟩) (.slice none 0 0) rfl ?_ ?_ ?_) rfl ?_
    · simp [go_sem]
    · simp [go_sem]
    · simp [go_sem]
    exact ⟨laid1 w _, Item.none, 42, none, 0, rfl, H, Lib.hid (ReadsIn.nil _ _)⟩
  · have h1 : ¬ (65536 : Int) < s.length := by omega
    have Hl := Lib.hid hl
    clear hl
    have hc := Lib.hid (all_any s.length s (w.alloc (.cells #[.bool false, .string ⟨#[]⟩, .slice none 0 0] 58)) (Nat.le_refl _) hs)
    go_enter Tryd.func61, Tryd.ntmps61
    go_wp2_with fail
    refine hc.out.mono ?_
    rintro e w2 ⟨hB2, hres⟩
    have hg : w.heap.size < (w.alloc (.cells #[.bool false, .string ⟨#[]⟩, .slice none 0 0] 58)).heap.size := by simp
    have hx2 : w2.heap[w.heap.size]? = some (.cells #[.bool false, .string ⟨#[]⟩, .slice none 0 0] 58 (0, 0)) := (hB2.block _ hg).trans (cells3_new w _ _ _ _)
    have hB3 : Below w.heap.size w w2 := (laid1 w _).trans (hB2.mono (by omega))
    have q0 : w2.cell? ⟨w.heap.size, 0, none⟩ = some (.bool false) := by rw [World.cell?, hx2]; rfl
    have q1 : w2.cell? ⟨w.heap.size, 1, none⟩ = some (.string ⟨#[]⟩) := by rw [World.cell?, hx2]; rfl
    have q2 : w2.cell? ⟨w.heap.size, 2, none⟩ = some (.slice none 0 0) := by rw [World.cell?, hx2]; rfl
    have z : ∀ i, w2.frozen? ⟨w.heap.size, i, none⟩ = false := fun i => by rw [World.frozen?, hx2]; simp
    have z0 := z 0
    have z1 := z 1
    have z2 := z 2
    have HB3 := Lib.hid hB3
    clear z hx2 hB2 hB3 hc
    have hW : ∀ v0 v1 v2, Below w.heap.size w (((w2.setCell ⟨w.heap.size, 0, none⟩ v0).setCell ⟨w.heap.size, 1, none⟩ v1).setCell ⟨w.heap.size, 2, none⟩ v2) := fun v0 v1 v2 => ((HB3.out.setCell (p := ⟨w.heap.size, 0, none⟩) (Nat.le_refl _) v0).setCell (p := ⟨w.heap.size, 1, none⟩) (Nat.le_refl _) v1).setCell (p := ⟨w.heap.size, 2, none⟩) (Nat.le_refl _) v2
    have HW := Lib.hid hW
    clear hW
    rcases hres with ⟨xs, p, cp, rfl, HA, HRd⟩ | ⟨p, m, cp, rfl, HA⟩
    · by_cases hx1 : xs.length = 1
      · match xs, hx1, HA, HRd with
        | [x], _, HA, HRd =>
          have hsz : x.size ≤ s.length := by have := all_size HA.out; simpa [sizeAll] using this
          obtain ⟨-, g, o, rfl, hgA, hat⟩ := HRd.out.at (by simp)
          obtain ⟨h4, h5, v', h6, h7⟩ := hat 0 x rfl
          obtain ⟨px, cx, rfl⟩ := h7.form
          have Hdec := Lib.hid (decode_one Hl.out HA.out)
          rw [Nat.zero_mul, Nat.add_zero] at h4 h5 h6
          have hrw : Reads w2 w2.heap.size (.slice px x.list.length cx) x.list := h7.mono (fun g hg => hg.2)
          have hd := Lib.hid (deep_any s.length hs x 12 (.slice px x.list.length cx) w2 hsz (by omega) hrw)
          have H7 := Lib.hid h7
          have hgA1 := hgA.1
          have hgA2 := hgA.2
          simp only [World.size_alloc] at hgA1
          clear hat h7 hrw hsz HA HRd hgA
          go_wp2_with fail
          refine hd.out.mono ?_
          rintro e w3 ⟨rfl, hb3⟩
          have c : ∀ (i : Nat) u, w2.cell? ⟨w.heap.size, i, none⟩ = some u → w3.cell? ⟨w.heap.size, i, none⟩ = some u := fun i u hu => (hb3.cell (p := ⟨w.heap.size, i, none⟩) (show w.heap.size < w2.heap.size by omega)).trans hu
          have c' : ∀ (i : Nat) u, w2.cell? ⟨g, i, none⟩ = some u → w3.cell? ⟨g, i, none⟩ = some u := fun i u hu => (hb3.cell (p := ⟨g, i, none⟩) hgA2).trans hu
          have f : ∀ (i : Nat), w2.frozen? ⟨w.heap.size, i, none⟩ = false → w3.frozen? ⟨w.heap.size, i, none⟩ = false := fun i hu => (hb3.frozen (p := ⟨w.heap.size, i, none⟩) (show w.heap.size < w2.heap.size by omega)).trans hu
          have p0 := c 0 _ q0
          have p1 := c 1 _ q1
          have p2 := c 2 _ q2
          have p3 := c' _ _ h4
          have p4 := c' _ _ h5
          have p5 := c' _ _ h6
          have f0 := f 0 z0
          have f1 := f 1 z1
          have f2 := f 2 z2
          have n1 : ¬ g = w.heap.size := by omega
          have n2 : ¬ w.heap.size = g := by omega
          have HB4 := Lib.hid (HB3.out.trans (hb3.mono HB3.out.size))
          have hr3 : ReadsIn w3 (fun g => w.heap.size + 1 ≤ g ∧ g < w3.heap.size) (.slice px x.list.length cx) x.list := H7.out.kept (fun g u o hg hc => (hb3.cell (p := ⟨g, o, none⟩) hg.2).trans hc) (fun g hg => by
            have h1 := hg.1
            have h2 := hg.2
            simp only [World.size_alloc] at h1
            exact ⟨h1, Nat.lt_of_lt_of_le h2 hb3.size⟩)
          have hR : ReadsIn (((w3.setCell ⟨w.heap.size, 0, none⟩ (.bool x.isList)).setCell ⟨w.heap.size, 1, none⟩ (.string ⟨x.text.toArray⟩)).setCell ⟨w.heap.size, 2, none⟩ (.slice px x.list.length cx)) (fun g => w.heap.size ≤ g ∧ g < w3.heap.size) (.slice px x.list.length cx) x.list :=
            ReadsIn.kept hr3 (fun g u o hg hc => by
              have h1 := hg.1
              rw [World.cell?_setCell_other _ _ _ _ (fun e => by cases e; omega), World.cell?_setCell_other _ _ _ _ (fun e => by cases e; omega), World.cell?_setCell_other _ _ _ _ (fun e => by cases e; omega)]
              exact hc) (fun g hg => ⟨by have := hg.1; omega, hg.2⟩)
          have HR3 := Lib.hid hR
          clear c c' f q0 q1 q2 z0 z1 z2 h4 h5 h6 hb3 H7 hd hr3 hR HW
          have hW2 : ∀ v0 v1 v2, Below w.heap.size w (((w3.setCell ⟨w.heap.size, 0, none⟩ v0).setCell ⟨w.heap.size, 1, none⟩ v1).setCell ⟨w.heap.size, 2, none⟩ v2) := fun v0 v1 v2 => ((HB4.out.setCell (p := ⟨w.heap.size, 0, none⟩) (Nat.le_refl _) v0).setCell (p := ⟨w.heap.size, 1, none⟩) (Nat.le_refl _) v1).setCell (p := ⟨w.heap.size, 2, none⟩) (Nat.le_refl _) v2
          have HW2 := Lib.hid hW2
          clear hW2
          cases hq : deep x 12 with
          | true =>
            go_wp2_with fail
            refine bodyPost_ret (results_item1 rfl _ _ w.heap.size (.bool false) (.string ⟨#[]⟩) (.slice none 0 0) rfl ?_ ?_ ?_) rfl ?_
            · simp [go_sem, p0]
            · simp [go_sem, p1]
            · simp [go_sem, p2]
            refine ⟨HW2.out _ _ _, Item.none, 41, none, 0, rfl, Lib.hid (Hdec.out.trans (by rw [hq]; rfl)), Lib.hid (ReadsIn.nil _ _)⟩
          | false =>
            go_wp2_with fail
            refine bodyPost_ret (results_item1 rfl _ _ w.heap.size (.bool x.isList) (.string ⟨x.text.toArray⟩) (.slice px x.list.length cx) rfl ?_ ?_ ?_) rfl ?_
            · simp [go_sem, p0]
            · simp [go_sem, p1]
            · simp [go_sem, p2]
            refine ⟨HW2.out _ _ _, x, 0, px, cx, rfl, Lib.hid (Hdec.out.trans (by rw [hq]; rfl)), Lib.hid ?_⟩
            have := HR3.out
            simp only [World.size_setCell]
            exact this
      · have h2 : ((xs.length : Int) != 1) = true := by simp; omega
        have H := Lib.hid (decode_many Hl.out HA.out hx1)
        clear hx1 HRd
        go_wp2_with fail
        refine bodyPost_ret (results_item1 rfl _ _ w.heap.size (.bool false) (.string ⟨#[]⟩) (.slice none 0 0) rfl ?_ ?_ ?_) rfl ?_
        · simp [go_sem, q0]
        · simp [go_sem, q1]
        · simp [go_sem, q2]
        exact ⟨HW.out _ _ _, Item.none, 40, none, 0, rfl, H, Lib.hid (ReadsIn.nil _ _)⟩
    · have H := Lib.hid (decode_none Hl.out HA.out)
      go_wp2_with fail
      refine bodyPost_ret (results_item1 rfl _ _ w.heap.size (.bool false) (.string ⟨#[]⟩) (.slice none 0 0) rfl ?_ ?_ ?_) rfl ?_
      · simp [go_sem, q0]
      · simp [go_sem, q1]
      · simp [go_sem, q2]
      exact ⟨HW.out _ _ _, Item.none, 40, none, 0, rfl, H, Lib.hid (ReadsIn.nil _ _)⟩
end Go.Proofs.YthicdhnjincflaaDoor
