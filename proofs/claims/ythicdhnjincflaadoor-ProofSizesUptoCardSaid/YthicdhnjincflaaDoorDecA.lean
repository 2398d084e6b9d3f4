/- Contract of rlp.Decode. -/
import Derived.Test.YthicdhnjincflaaDoorAllB
import Derived.Test.YthicdhnjincflaaDoorTakA
namespace Go.Proofs.YthicdhnjincflaaDoor
open Go.RowKit Go.Shelf Go.Lib

/-- what Decode gives -/
def DecIs (s : List UInt8) (e : Ending) (w w' : World) : Prop :=
  Below w.heap.size w w' ∧ ∃ (x : Item) (n : Int) (p : Option Addr) (c : Nat), e = .returned (.tuple #[.agg #[.bool x.isList, .string ⟨x.text.toArray⟩, .slice p x.list.length c], .int .i64 n]) ∧
    Hid (decode s = (x, n)) ∧ Hid (Reads w' w'.heap.size (.slice p x.list.length c) x.list)
theorem decode_long {s : List UInt8} (h : s.length > 65536) : decode s = (.none, 42) := by unfold decode; rw [if_pos h]
theorem decode_none {s : List UInt8} (h : ¬ s.length > 65536) (ha : all s = Option.none) : decode s = (.none, 40) := by unfold decode; rw [if_neg h, ha]
theorem decode_many {s : List UInt8} {xs : List Item} (h : ¬ s.length > 65536) (ha : all s = some xs) (hx : xs.length ≠ 1) : decode s = (.none, 40) := by
  unfold decode
  rw [if_neg h, ha]
  match xs, hx with
  | [], _ => rfl
  | [x], hx => simp at hx
  | _ :: _ :: _, _ => rfl
theorem decode_one {s : List UInt8} {x : Item} (h : ¬ s.length > 65536) (ha : all s = some [x]) : decode s = if deep x 12 then (.none, 41) else (x, 0) := by unfold decode; rw [if_neg h, ha]

theorem cut_sum {s inn rest : List UInt8} {b : Bool} (h : cut s = some (inn, b, rest)) : inn.length + rest.length ≤ s.length ∧ (b = true → inn.length + rest.length + 1 ≤ s.length) := by
  cases s with
  | nil => simp [cut] at h
  | cons c r =>
    rw [cut] at h
    split at h
    · simp only [Option.some.injEq, Prod.mk.injEq] at h
      obtain ⟨rfl, rfl, rfl⟩ := h
      refine ⟨by simp; omega, fun h => by cases h⟩
    · split at h
      · split at h
        · simp at h
        · split at h
          · simp at h
          · split at h
            · simp at h
            · simp only [Option.some.injEq, Prod.mk.injEq] at h
              obtain ⟨rfl, _, rfl⟩ := h
              simp only [List.length_take, List.length_drop, List.length_cons]
              omega
      · split at h
        · simp at h
        · split at h
          · simp at h
          · simp only [Option.some.injEq, Prod.mk.injEq] at h
            obtain ⟨rfl, _, rfl⟩ := h
            simp only [List.length_take, List.length_drop, List.length_cons]
            omega
theorem parse_size (f : Nat) : ∀ (s : List UInt8) (xs : List Item), parse f s = some xs → sizeAll xs ≤ s.length := by
  induction f with
  | zero => intro s xs h; cases h
  | succ f ih =>
    intro s xs h
    unfold parse at h
    split at h
    · cases h; simp [sizeAll]
    · cases hc : cut s with
      | none => rw [hc] at h; cases h
      | some q =>
        obtain ⟨inn, b, rest⟩ := q
        have h1 := cut_sum hc
        have h2 := cut_short hc
        rw [hc] at h
        dsimp only at h
        cases b with
        | false =>
          simp only [Bool.false_eq_true, if_false] at h
          cases hr : parse f rest with
          | none => rw [hr] at h; cases h
          | some ys =>
            rw [hr] at h
            cases h
            have := ih rest ys hr
            simp [sizeAll, Item.size]
            omega
        | true =>
          simp only [if_true] at h
          cases hi : parse f inn with
          | none => rw [hi] at h; cases h
          | some zs =>
            rw [hi] at h
            simp only [Option.map_some] at h
            cases hr : parse f rest with
            | none => rw [hr] at h; cases h
            | some ys =>
              rw [hr] at h
              cases h
              have e1 := ih rest ys hr
              have e2 := ih inn zs hi
              have e3 := h1.2 rfl
              simp [sizeAll, Item.size]
              omega
theorem all_size {s : List UInt8} {xs : List Item} (h : all s = some xs) : sizeAll xs ≤ s.length := parse_size _ s xs h

/-- the cells of a struct in a new block -/
theorem cells3_new (w : World) (v0 v1 v2 : Value) (t : TypeId) : (w.alloc (.cells #[v0, v1, v2] t)).heap[w.heap.size]? = some (.cells #[v0, v1, v2] t (0, 0)) := World.alloc_heap_new w _

set_option maxRecDepth 100000 in
set_option maxHeartbeats 3200000 in
theorem decode_any (s : List UInt8) (w : World) (hs : s.length ≤ 1099511627776) : Calls Tryd.prog 61 #[.string ⟨s.toArray⟩] w fun e w' => DecIs s e w w' := by
  by_cases hl : s.length > 65536
  · have h1 : (65536 : Int) < s.length := by omega
    have H := Lib.hid (decode_long hl)
    clear hl
    go_enter Tryd.func61, Tryd.ntmps61
    go_wp2_with fail
    refine bodyPost_ret (results_item1 rfl _ _ w.heap.size (.bool false) (.string ⟨#[]⟩) (.slice none 0 0) rfl ?_ ?_ ?_) rfl ?_
    · simp [go_sem]
    · simp [go_sem]
    · simp [go_sem]
    exact ⟨laid1 w _, Item.none, 42, none, 0, rfl, H, Lib.hid (Reads.nil _ _)⟩
  · have h1 : ¬ (65536 : Int) < s.length := by omega
    have Hl := Lib.hid hl
    clear hl
    have hc := Lib.hid (all_any s.length s (w.alloc (.cells #[.bool false, .string ⟨#[]⟩, .slice none 0 0] 58)) (Nat.le_refl _) hs)
    go_enter Tryd.func61, Tryd.ntmps61
    go_wp2_with fail
    refine hc.out.mono ?_
    rintro e w2 ⟨hB2, hres⟩
    have hg : w.heap.size < (w.alloc (.cells #[.bool false, .string ⟨#[]⟩, .slice none 0 0] 58)).heap.size := by simp
    have hx2 : w2.heap[w.heap.size]? = some (.cells #[.bool false, .string ⟨#[]⟩, .slice none 0 0] 58 (0, 0)) := (hB2.block _ hg).trans (cells3_new w _ _ _ _)
    have hB3 : Below w.heap.size w w2 := (laid1 w _).trans (hB2.mono (by omega))
    have q0 : w2.cell? ⟨w.heap.size, 0, none⟩ = some (.bool false) := by rw [World.cell?, hx2]; rfl
    have q1 : w2.cell? ⟨w.heap.size, 1, none⟩ = some (.string ⟨#[]⟩) := by rw [World.cell?, hx2]; rfl
    have q2 : w2.cell? ⟨w.heap.size, 2, none⟩ = some (.slice none 0 0) := by rw [World.cell?, hx2]; rfl
    have z : ∀ i, w2.frozen? ⟨w.heap.size, i, none⟩ = false := fun i => by rw [World.frozen?, hx2]; simp
    have z0 := z 0
    have z1 := z 1
    have z2 := z 2
    have HB3 := Lib.hid hB3
    clear z hx2 hB2 hB3 hc
    have hW : ∀ v0 v1 v2, Below w.heap.size w (((w2.setCell ⟨w.heap.size, 0, none⟩ v0).setCell ⟨w.heap.size, 1, none⟩ v1).setCell ⟨w.heap.size, 2, none⟩ v2) := fun v0 v1 v2 => ((HB3.out.setCell (p := ⟨w.heap.size, 0, none⟩) (Nat.le_refl _) v0).setCell (p := ⟨w.heap.size, 1, none⟩) (Nat.le_refl _) v1).setCell (p := ⟨w.heap.size, 2, none⟩) (Nat.le_refl _) v2
    have HW := Lib.hid hW
    clear hW
    rcases hres with ⟨xs, p, cp, rfl, HA, HRd⟩ | ⟨p, m, cp, rfl, HA⟩
    · by_cases hx1 : xs.length = 1
      · match xs, hx1, HA, HRd with
        | [x], _, HA, HRd =>
          have hsz : x.size ≤ s.length := by have := all_size HA.out; simpa [sizeAll] using this
          obtain ⟨-, g, o, rfl, hgA, hat⟩ := HRd.out.at (by simp)
          obtain ⟨h4, h5, v', h6, h7⟩ := hat 0 x rfl
          obtain ⟨px, cx, rfl⟩ := h7.form
          have Hdec := Lib.hid (decode_one Hl.out HA.out)
          rw [Nat.zero_mul, Nat.add_zero] at h4 h5 h6
          have hrw : Reads w2 w2.heap.size (.slice px x.list.length cx) x.list := h7.mono (fun g hg => hg.2)
          have hd := Lib.hid (deep_any s.length hs x 12 (.slice px x.list.length cx) w2 hsz (by omega) hrw)
          have H7 := Lib.hid h7
          have hgA1 := hgA.1
          have hgA2 := hgA.2
          simp only [World.size_alloc] at hgA1
          clear hat h7 hrw hsz HA HRd hgA
          go_wp2_with fail
          refine hd.out.mono ?_
          rintro e w3 ⟨rfl, hb3⟩
          have c : ∀ (i : Nat) u, w2.cell? ⟨w.heap.size, i, none⟩ = some u → w3.cell? ⟨w.heap.size, i, none⟩ = some u := fun i u hu => (hb3.cell (p := ⟨w.heap.size, i, none⟩) (show w.heap.size < w2.heap.size by omega)).trans hu
          have c' : ∀ (i : Nat) u, w2.cell? ⟨g, i, none⟩ = some u → w3.cell? ⟨g, i, none⟩ = some u := fun i u hu => (hb3.cell (p := ⟨g, i, none⟩) hgA2).trans hu
          have f : ∀ (i : Nat), w2.frozen? ⟨w.heap.size, i, none⟩ = false → w3.frozen? ⟨w.heap.size, i, none⟩ = false := fun i hu => (hb3.frozen (p := ⟨w.heap.size, i, none⟩) (show w.heap.size < w2.heap.size by omega)).trans hu
          have p0 := c 0 _ q0
          have p1 := c 1 _ q1
          have p2 := c 2 _ q2
          have p3 := c' _ _ h4
          have p4 := c' _ _ h5
          have p5 := c' _ _ h6
          have f0 := f 0 z0
          have f1 := f 1 z1
          have f2 := f 2 z2
          have n1 : ¬ g = w.heap.size := by omega
          have n2 : ¬ w.heap.size = g := by omega
          have HB4 := Lib.hid (HB3.out.trans (hb3.mono HB3.out.size))
          have hr3 : ReadsIn w3 (fun g => w.heap.size + 1 ≤ g ∧ g < w3.heap.size) (.slice px x.list.length cx) x.list := H7.out.kept (fun g u o hg hc => (hb3.cell (p := ⟨g, o, none⟩) hg.2).trans hc) (fun g hg => by
            have h1 := hg.1
            have h2 := hg.2
            simp only [World.size_alloc] at h1
            exact ⟨h1, Nat.lt_of_lt_of_le h2 hb3.size⟩)
          have hR : Reads (((w3.setCell ⟨w.heap.size, 0, none⟩ (.bool x.isList)).setCell ⟨w.heap.size, 1, none⟩ (.string ⟨x.text.toArray⟩)).setCell ⟨w.heap.size, 2, none⟩ (.slice px x.list.length cx)) w3.heap.size (.slice px x.list.length cx) x.list :=
            ReadsIn.kept hr3 (fun g u o hg hc => by
              have h1 := hg.1
              rw [World.cell?_setCell_other _ _ _ _ (fun e => by cases e; omega), World.cell?_setCell_other _ _ _ _ (fun e => by cases e; omega), World.cell?_setCell_other _ _ _ _ (fun e => by cases e; omega)]
              exact hc) (fun g hg => hg.2)
          have HR3 := Lib.hid hR
          clear c c' f q0 q1 q2 z0 z1 z2 h4 h5 h6 hb3 H7 hd hr3 hR HW
          have hW2 : ∀ v0 v1 v2, Below w.heap.size w (((w3.setCell ⟨w.heap.size, 0, none⟩ v0).setCell ⟨w.heap.size, 1, none⟩ v1).setCell ⟨w.heap.size, 2, none⟩ v2) := fun v0 v1 v2 => ((HB4.out.setCell (p := ⟨w.heap.size, 0, none⟩) (Nat.le_refl _) v0).setCell (p := ⟨w.heap.size, 1, none⟩) (Nat.le_refl _) v1).setCell (p := ⟨w.heap.size, 2, none⟩) (Nat.le_refl _) v2
          have HW2 := Lib.hid hW2
          clear hW2
          cases hq : deep x 12 with
          | true =>
            go_wp2_with fail
            refine bodyPost_ret (results_item1 rfl _ _ w.heap.size (.bool false) (.string ⟨#[]⟩) (.slice none 0 0) rfl ?_ ?_ ?_) rfl ?_
            · simp [go_sem, p0]
            · simp [go_sem, p1]
            · simp [go_sem, p2]
            refine ⟨HW2.out _ _ _, Item.none, 41, none, 0, rfl, Lib.hid (Hdec.out.trans (by rw [hq]; rfl)), Lib.hid (Reads.nil _ _)⟩
          | false =>
            go_wp2_with fail
            refine bodyPost_ret (results_item1 rfl _ _ w.heap.size (.bool x.isList) (.string ⟨x.text.toArray⟩) (.slice px x.list.length cx) rfl ?_ ?_ ?_) rfl ?_
            · simp [go_sem, p0]
            · simp [go_sem, p1]
            · simp [go_sem, p2]
            refine ⟨HW2.out _ _ _, x, 0, px, cx, rfl, Lib.hid (Hdec.out.trans (by rw [hq]; rfl)), Lib.hid ?_⟩
            have := HR3.out
            simp only [World.size_setCell]
            exact this
      · have h2 : ((xs.length : Int) != 1) = true := by simp; omega
        have H := Lib.hid (decode_many Hl.out HA.out hx1)
        clear hx1 HRd
        go_wp2_with fail
        refine bodyPost_ret (results_item1 rfl _ _ w.heap.size (.bool false) (.string ⟨#[]⟩) (.slice none 0 0) rfl ?_ ?_ ?_) rfl ?_
        · simp [go_sem, q0]
        · simp [go_sem, q1]
        · simp [go_sem, q2]
        exact ⟨HW.out _ _ _, Item.none, 40, none, 0, rfl, H, Lib.hid (Reads.nil _ _)⟩
    · have H := Lib.hid (decode_none Hl.out HA.out)
      go_wp2_with fail
      refine bodyPost_ret (results_item1 rfl _ _ w.heap.size (.bool false) (.string ⟨#[]⟩) (.slice none 0 0) rfl ?_ ?_ ?_) rfl ?_
      · simp [go_sem, q0]
      · simp [go_sem, q1]
      · simp [go_sem, q2]
      exact ⟨HW.out _ _ _, Item.none, 40, none, 0, rfl, H, Lib.hid (Reads.nil _ _)⟩
end Go.Proofs.YthicdhnjincflaaDoor
