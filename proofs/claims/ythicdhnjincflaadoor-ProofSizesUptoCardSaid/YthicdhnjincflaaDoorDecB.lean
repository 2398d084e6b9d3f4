/- Contract of the reference's Decode. -/
import Derived.Test.YthicdhnjincflaaDoorTakB
namespace Go.Proofs.YthicdhnjincflaaDoor
open Go.RowKit Go.Shelf Go.Lib

theorem decode_bad {s : List UInt8} (h : ¬ s.length > 65536) (hf : first s = Option.none) : decode s = (.none, 40) := by
  cases s with
  | nil => rfl
  | cons c r => exact decode_none h (by rw [all_step (by simp), hf])
theorem decode_more {s : List UInt8} {x : Item} {n : Nat} (h : ¬ s.length > 65536) (hn : n < s.length) (hf : first s = some (x, s.drop n)) : decode s = (.none, 40) := by
  have hne : s ≠ [] := fun e => by rw [e] at hn; simp at hn
  have hd : s.drop n ≠ [] := fun e => by have := congrArg List.length e; simp at this; omega
  cases hr : all (s.drop n) with
  | none => exact decode_none h (by rw [all_step hne, hf]; simp [hr])
  | some ys =>
    have hall : all s = some (x :: ys) := by rw [all_step hne, hf]; simp [hr]
    refine decode_many h hall ?_
    intro e
    simp at e
    subst e
    rw [all_step hd] at hr
    cases hf2 : first (s.drop n) with
    | none => rw [hf2] at hr; cases hr
    | some q =>
      rw [hf2] at hr
      dsimp only at hr
      cases hr2 : all q.2 with
      | none => rw [hr2] at hr; cases hr
      | some zs => rw [hr2] at hr; cases hr
theorem all_one {s : List UInt8} {x : Item} (hne : s ≠ []) (hf : first s = some (x, [])) : all s = some [x] := by
  rw [all_step hne, hf]; rfl

set_option maxRecDepth 100000 in
set_option maxHeartbeats 3200000 in
theorem decodeRef_any (s : List UInt8) (w : World) (hs : s.length ≤ 1099511627776) : Calls Tryd.prog 64 #[.string ⟨s.toArray⟩] w fun e w' => DecIs s e w w' := by
  by_cases hl : s.length > 65536
  · have h1 : (65536 : Int) < s.length := by omega
    have H := Lib.hid (decode_long hl)
    clear hl
    go_enter Tryd.func64, Tryd.ntmps64
    go_wp2_with fail
    refine bodyPost_ret (results_item1 rfl _ _ w.heap.size (.bool false) (.string ⟨#[]⟩) (.slice none 0 0) rfl ?_ ?_ ?_) rfl ?_
    · simp [go_sem]
    · simp [go_sem]
    · simp [go_sem]
    exact ⟨laid1 w _, Item.none, 42, none, 0, rfl, H, Lib.hid (Reads.nil _ _)⟩
  · have h1 : ¬ (65536 : Int) < s.length := by omega
    have Hl := Lib.hid hl
    clear hl
    have hc := take_any (s.length + 1) s 0 s.length (w.alloc (.cells #[.bool false, .string ⟨#[]⟩, .slice none 0 0] 58)) hs (by omega) (by omega) (by omega)
    rw [List.take_length] at hc
    have Hc := Lib.hid hc
    clear hc
    go_enter Tryd.func64, Tryd.ntmps64
    go_wp2_with fail
    refine Hc.out.mono ?_
    rintro e w2 ⟨hB2, hres⟩
    have hbx : Box3 w2 w.heap.size (.bool false) (.string ⟨#[]⟩) (.slice none 0 0) := (Box3.new w _ _ _ _).kept (hB2.block _ (by simp))
    have hz := hbx.lt
    have HB3 := Lib.hid ((laid1 w _).trans (hB2.mono (by simp)))
    have HX := Lib.hid hbx
    obtain ⟨q0, q1, q2, z⟩ := hbx
    have z0 := z 0
    have z1 := z 1
    have z2 := z 2
    clear z hB2 Hc
    rcases hres with ⟨x, p, c, next, rfl, HF, HRd⟩ | ⟨rfl, HF⟩
    · obtain ⟨f1, f2, f3⟩ := HF.out
      rw [List.drop_zero] at f3
      have n1 : ¬ w.heap.size = w2.heap.size := by omega
      have n2 : ¬ w2.heap.size = w.heap.size := by omega
      by_cases he : next = s.length
      · subst he
        rw [List.drop_length] at f3
        have hne : s ≠ [] := fun e => by rw [e] at f1; simp at f1
        have hall := all_one hne f3
        have hsz : x.size ≤ s.length := by have := all_size hall; simpa [sizeAll] using this
        have Hdec := Lib.hid (decode_one Hl.out hall)
        have hrw : Reads (w2.alloc (.cells #[.bool x.isList, .string ⟨x.text.toArray⟩, .slice p x.list.length c] 58)) (w2.alloc (.cells #[.bool x.isList, .string ⟨x.text.toArray⟩, .slice p x.list.length c] 58)).heap.size (.slice p x.list.length c) x.list :=
          ReadsIn.grown HRd.out (World.grownBy_alloc w2 _ none) (fun r e => by cases e) (fun g hg => by simp; omega)
        have hd := Lib.hid (deepRef_any s.length hs x 12 (.slice p x.list.length c) _ hsz (by omega) hrw)
        clear hrw hall f3 hne hsz f1 f2 HF
        go_wp2_with fail
        refine hd.out.mono ?_
        rintro e w3 ⟨rfl, hb3⟩
        have HB4 := Lib.hid ((HB3.out.alloc HB3.out.size _).trans (hb3.mono (by simp; omega)))
        have hb6 : Box3 w3 w.heap.size (.bool false) (.string ⟨#[]⟩) (.slice none 0 0) := (HX.out.kept (Below.heap_alloc _ _ _ hz)).kept (hb3.block _ (by simp; omega))
        have hb4 : Box3 w3 w2.heap.size (.bool x.isList) (.string ⟨x.text.toArray⟩) (.slice p x.list.length c) := (Box3.new w2 _ _ _ _).kept (hb3.block _ (by simp))
        have hr3 : ReadsIn w3 (fun g => w.heap.size + 1 ≤ g ∧ g < w3.heap.size) (.slice p x.list.length c) x.list :=
          HRd.out.kept (fun g u o hg hc => (hb3.cell (p := ⟨g, o, none⟩) (by simp; omega)).trans ((World.cell?_alloc_lt _ _ ⟨g, o, none⟩ hg.2).trans hc)) (fun g hg => by
            have h1 := hg.1
            have h2 := hb3.size
            simp at h1 h2
            exact ⟨h1, by omega⟩)
        have HR3 := Lib.hid hr3
        have H6 := Lib.hid hb6
        clear q0 q1 q2 z0 z1 z2 hb3 hr3 hd
        obtain ⟨q0, q1, q2, z⟩ := hb6
        have z0 := z 0
        have z1 := z 1
        have z2 := z 2
        obtain ⟨p0, p1, p2, -⟩ := hb4
        clear z
        cases hq : deep x 12 with
        | true =>
          go_wp2_with fail
          have hy := H6.out.set3 (.bool false) (.string ⟨#[]⟩) (.slice none 0 0)
          refine bodyPost_ret (results_item1 rfl _ _ w.heap.size (.bool false) (.string ⟨#[]⟩) (.slice none 0 0) rfl hy.1 hy.2.1 hy.2.2.1) rfl ?_
          exact ⟨((HB4.out.setCell (p := ⟨w.heap.size, 0, none⟩) (Nat.le_refl _) _).setCell (p := ⟨w.heap.size, 1, none⟩) (Nat.le_refl _) _).setCell (p := ⟨w.heap.size, 2, none⟩) (Nat.le_refl _) _, Item.none, 41, none, 0, rfl, Lib.hid (Hdec.out.trans (by rw [hq]; rfl)), Lib.hid (Reads.nil _ _)⟩
        | false =>
          go_wp2_with fail
          have hy := H6.out.set3 (.bool x.isList) (.string ⟨x.text.toArray⟩) (.slice p x.list.length c)
          refine bodyPost_ret (results_item1 rfl _ _ w.heap.size (.bool x.isList) (.string ⟨x.text.toArray⟩) (.slice p x.list.length c) rfl hy.1 hy.2.1 hy.2.2.1) rfl ?_
          refine ⟨((HB4.out.setCell (p := ⟨w.heap.size, 0, none⟩) (Nat.le_refl _) _).setCell (p := ⟨w.heap.size, 1, none⟩) (Nat.le_refl _) _).setCell (p := ⟨w.heap.size, 2, none⟩) (Nat.le_refl _) _, x, 0, p, c, rfl, Lib.hid (Hdec.out.trans (by rw [hq]; rfl)), Lib.hid (HR3.out.kept (fun g u o hg hc => ?_) (fun g hg => by simp only [World.size_setCell]; exact hg.2))⟩
          have h1 := hg.1
          rw [World.cell?_setCell_other _ _ _ _ (fun e => by cases e; omega), World.cell?_setCell_other _ _ _ _ (fun e => by cases e; omega), World.cell?_setCell_other _ _ _ _ (fun e => by cases e; omega)]
          exact hc
      · have h2 : ((next : Int) != s.length) = true := by simp; omega
        have H := Lib.hid (decode_more Hl.out (by omega) f3)
        clear he HRd f1 f2 f3 HF
        go_wp2_with fail
        have hy := (HX.out.set3 (.bool false) (.string ⟨#[]⟩) (.slice none 0 0)).kept (Below.heap_alloc _ (.cells #[.bool x.isList, .string ⟨x.text.toArray⟩, .slice p x.list.length c] 58) _ (by simp; exact hz))
        refine bodyPost_ret (results_item1 rfl _ _ w.heap.size (.bool false) (.string ⟨#[]⟩) (.slice none 0 0) rfl hy.1 hy.2.1 hy.2.2.1) rfl ?_
        exact ⟨(((HB3.out.setCell (p := ⟨w.heap.size, 0, none⟩) (Nat.le_refl _) _).setCell (p := ⟨w.heap.size, 1, none⟩) (Nat.le_refl _) _).setCell (p := ⟨w.heap.size, 2, none⟩) (Nat.le_refl _) _).alloc (by simp; exact HB3.out.size) _, Item.none, 40, none, 0, rfl, H, Lib.hid (Reads.nil _ _)⟩
    · have H := Lib.hid (decode_bad Hl.out (by have := HF.out; rwa [List.drop_zero] at this))
      go_wp2_with fail
      have hy := (HX.out.set3 (.bool false) (.string ⟨#[]⟩) (.slice none 0 0)).kept (Below.heap_alloc _ (.cells #[.bool false, .string ⟨#[]⟩, .slice none 0 0] 58) _ (by simp; exact hz))
      refine bodyPost_ret (results_item1 rfl _ _ w.heap.size (.bool false) (.string ⟨#[]⟩) (.slice none 0 0) rfl hy.1 hy.2.1 hy.2.2.1) rfl ?_
      exact ⟨(((HB3.out.setCell (p := ⟨w.heap.size, 0, none⟩) (Nat.le_refl _) _).setCell (p := ⟨w.heap.size, 1, none⟩) (Nat.le_refl _) _).setCell (p := ⟨w.heap.size, 2, none⟩) (Nat.le_refl _) _).alloc (by simp; exact HB3.out.size) _, Item.none, 40, none, 0, rfl, H, Lib.hid (Reads.nil _ _)⟩
end Go.Proofs.YthicdhnjincflaaDoor
