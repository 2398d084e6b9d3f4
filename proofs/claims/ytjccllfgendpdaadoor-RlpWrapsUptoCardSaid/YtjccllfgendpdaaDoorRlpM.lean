/- The walk of the law RlpDecodes: it returns true, and nothing that was there is changed. -/
import Derived.Test.YtjccllfgendpdaaDoorDecB
import Derived.Test.YtjccllfgendpdaaDoorRlpL
namespace Go.Proofs.YtjccllfgendpdaaDoor
open Go.RowKit Go.Shelf Go.Lib

theorem decode_size (s : List UInt8) : (decode s).1.size ≤ s.length + 1 := by
  unfold decode
  split
  · simp [Item.none, Item.size, sizeAll]
  · split
    · rename_i x h
      have := all_size h
      simp [sizeAll] at this
      split
      · simp [Item.none, Item.size, sizeAll]
      · dsimp only; omega
    · simp [Item.none, Item.size, sizeAll]
theorem bcell {W w1 : World} (hb : Below W.heap.size W w1) : (∀ b o, b < W.heap.size → w1.cell? ⟨b, o, none⟩ = W.cell? ⟨b, o, none⟩) ∧ (∀ b o, b < W.heap.size → w1.frozen? ⟨b, o, none⟩ = W.frozen? ⟨b, o, none⟩) :=
  ⟨fun b o h => hb.cell (p := ⟨b, o, none⟩) h, fun b o h => hb.frozen (p := ⟨b, o, none⟩) h⟩

set_option maxRecDepth 100000 in
set_option maxHeartbeats 1600000 in
theorem law_decodes (s : ByteArray) (w : World) (hs : s.size ≤ 1099511627770) :
    Calls Tryd.prog 7 #[.string s] w fun e w' => e = .returned (.bool true) ∧ Below w.heap.size w w' := by
  have H1 := Lib.hid (fun W => decode_any s.data.toList W (by have : s.data.toList.length = s.size := rfl; omega))
  have H2 := Lib.hid (fun W => decodeRef_any s.data.toList W (by have : s.data.toList.length = s.size := rfl; omega))
  have hsz := decode_size s.data.toList
  have e0 : (⟨s.data.toList.toArray⟩ : ByteArray) = s := by simp
  rw [e0] at H1 H2
  obtain ⟨x, n, hx⟩ : ∃ x n, decode s.data.toList = (x, n) := ⟨_, _, rfl⟩
  rw [hx] at hsz
  have hxs : x.size ≤ 1099511627776 := by have : s.data.toList.length = s.size := rfl; dsimp only at hsz; omega
  have HX := Lib.hid hx
  clear hx hsz e0
  go_enter Tryd.func7, Tryd.ntmps7
  go_wp2_with fail
  refine (shown_any _).mono ?_
  rintro e w1 ⟨rfl, hb1⟩
  go_wp2_with fail
  refine (H1.out _).mono ?_
  rintro e w2 ⟨hb2, y, m, p, c, rfl, HD, HR⟩
  obtain ⟨rfl, rfl⟩ : y = x ∧ m = n := by have := HX.out.symm.trans HD.out; cases this; exact ⟨rfl, rfl⟩
  go_wp2_with fail
  refine (H2.out _).mono ?_
  rintro e w3 ⟨hb3, y', m', p', c', rfl, HD', HR'⟩
  obtain ⟨rfl, rfl⟩ : y' = y ∧ m' = m := by have := HX.out.symm.trans HD'.out; cases this; exact ⟨rfl, rfl⟩
  have hbx : Box3 w3 w2.heap.size (.bool y'.isList) (.string ⟨y'.text.toArray⟩) (.slice p y'.list.length c) := (Box3.new w2 _ _ _ _).kept (hb3.block _ (by simp))
  have hz := hbx.lt
  have HB3 := Lib.hid ((hb1.trans (hb2.mono hb1.size)).alloc (by have h1 := hb1.size; have h2 := hb2.size; omega) (.cells #[.bool y'.isList, .string ⟨y'.text.toArray⟩, .slice p y'.list.length c] 36) |>.trans (hb3.mono (by have h1 := hb1.size; have h2 := hb2.size; simp; omega)))
  obtain ⟨q0, q1, q2, -⟩ := hbx
  have hr1 : Reads (w3.alloc (.cells #[.bool y'.isList, .string ⟨y'.text.toArray⟩, .slice p' y'.list.length c'] 36)) (w3.alloc (.cells #[.bool y'.isList, .string ⟨y'.text.toArray⟩, .slice p' y'.list.length c'] 36)).heap.size (.slice p y'.list.length c) y'.list :=
    ((HR.out.below (laid1 w2 _) (by simp)).below hb3 hb3.size).below (laid1 w3 _) (by simp)
  have hr2 := HR'.out.below (laid1 w3 (.cells #[.bool y'.isList, .string ⟨y'.text.toArray⟩, .slice p' y'.list.length c'] 36)) (B' := (w3.alloc (.cells #[.bool y'.isList, .string ⟨y'.text.toArray⟩, .slice p' y'.list.length c'] 36)).heap.size) (by simp)
  have hS := sameRef_any 1099511627776 (by omega) y' y' (.slice p y'.list.length c) (.slice p' y'.list.length c') _ hxs hxs hr1 hr2
  rw [same_refl] at hS
  have HS := Lib.hid hS
  clear hr1 hr2 hS hb1 hb2 hb3
  go_wp2_with fail
  refine HS.out.mono ?_
  rintro e w4 ⟨rfl, hb4⟩
  have HB4 := Lib.hid ((HB3.out.alloc HB3.out.size _).trans (hb4.mono (by have := HB3.out.size; simp; omega)))
  clear hb4
  go_wp2_with fail
  go_ret
  exact ⟨ret_true (by simp), HB4.out⟩
end Go.Proofs.YtjccllfgendpdaaDoor
