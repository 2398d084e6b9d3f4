/- Contracts of rlp.Text, rlp.List and shown. -/
import Derived.Test.YtjccllfgendpdaaDoorDecA
namespace Go.Proofs.YtjccllfgendpdaaDoor
open Go.RowKit Go.Shelf Go.Lib

theorem results_item0 {fn : Func} {p : Tmp} (h : fn.results = #[.cell p 36]) (tmps : Array Value) (w : World) (g : Nat) (v0 v1 v2 : Value) (hp : tmps.getD p undef = .pointer (some ⟨g, 0, none⟩))
    (h0 : w.cell? ⟨g, 0, none⟩ = some v0) (h1 : w.cell? ⟨g, 1, none⟩ = some v1) (h2 : w.cell? ⟨g, 2, none⟩ = some v2) :
    (results fn tmps).run Tryd.prog w = .ok (.agg #[v0, v1, v2]) w := by
  have hp' : tmps[p]?.getD undef = .pointer (some ⟨g, 0, none⟩) := by simpa using hp
  simp [results, h, hp', asAddr, loadItem w g v0 v1 v2 h0 h1 h2]
set_option maxRecDepth 100000 in
theorem text_any (s : ByteArray) (w : World) : Calls Tryd.prog 41 #[.string s] w fun e w' => e = .returned (.agg #[.bool false, .string s, .slice none 0 0]) ∧ Below w.heap.size w w' := by
  go_enter Tryd.func41, Tryd.ntmps41
  go_wp2
  refine bodyPost_ret (results_item0 rfl _ _ w.heap.size (.bool false) (.string s) (.slice none 0 0) rfl ?_ ?_ ?_) rfl ?_
  · simp [go_sem]
  · simp [go_sem]
  · simp [go_sem]
  exact ⟨rfl, laid1 w _⟩
set_option maxRecDepth 100000 in
theorem list_any (p : Option Addr) (n c : Nat) (w : World) : Calls Tryd.prog 35 #[.slice p n c] w fun e w' => e = .returned (.agg #[.bool true, .string ⟨#[]⟩, .slice p n c]) ∧ Below w.heap.size w w' := by
  go_enter Tryd.func35, Tryd.ntmps35
  go_wp2
  refine bodyPost_ret (results_item0 rfl _ _ w.heap.size (.bool true) (.string ⟨#[]⟩) (.slice p n c) rfl ?_ ?_ ?_) rfl ?_
  · simp [go_sem]
  · simp [go_sem]
  · simp [go_sem]
  exact ⟨rfl, laid1 w _⟩

theorem cells_at (w : World) (xs : List Value) (t : TypeId) (j : Nat) (u : Value) (h : xs[j]? = some u) : (w.alloc (.cells xs.toArray t)).cell? ⟨w.heap.size, j, none⟩ = some u := by
  rw [World.cell?_alloc_mark]
  simpa using h
/-- the list of shown, and its bytes -/
def shownItem : Item := .mk true [] [.mk false [99, 97, 116] [], .mk false [100, 111, 103] []]
def shownBytes : List UInt8 := [200, 131, 99, 97, 116, 131, 100, 111, 103]
theorem shown_encode : encodeV shownItem = .tuple #[.string ⟨shownBytes.toArray⟩, .int .i64 0] := by kernel_rfl
theorem shown_decode : decode shownBytes = (shownItem, 0) := by kernel_rfl
theorem shown_size : shownItem.size = 3 := by kernel_rfl
theorem shown_put : (put shownItem).length = 9 := by kernel_rfl

set_option maxRecDepth 100000 in
set_option maxHeartbeats 1600000 in
theorem shown_any (w : World) : Calls Tryd.prog 23 #[] w fun e w' => e = .returned (.bool true) ∧ Below w.heap.size w w' := by
  go_enter Tryd.func23, Tryd.ntmps23
  go_wp2_with fail
  refine (text_any _ _).mono ?_
  rintro e w1 ⟨rfl, hb1⟩
  go_wp2_with fail
  refine (text_any _ _).mono ?_
  rintro e w2 ⟨rfl, hb2⟩
  have hB2 := hb1.trans (hb2.mono hb1.size)
  have HB2 := Lib.hid hB2
  clear hb1 hb2 hB2
  go_wp2_with fail
  refine (list_any _ _ _ _).mono ?_
  rintro e w3 ⟨rfl, hb3⟩
  have hrd : Reads w3 w3.heap.size (.slice (some ⟨w2.heap.size, 0, none⟩) 2 2) shownItem.list := by
    have h0 := fun j u hu => (hb3.cell (p := ⟨w2.heap.size, j, none⟩) (by simp)).trans (cells_at w2 [.bool false, .string ⟨#[99, 97, 116]⟩, .slice none 0 0, .bool false, .string ⟨#[100, 111, 103]⟩, .slice none 0 0] 36 j u hu)
    refine Reads.mk (xs := shownItem.list) (cap := 2) (by have := hb3.size; simp at this; omega) (fun i x hx => ?_)
    match i, hx with
    | 0, hx => cases hx; exact ⟨h0 0 _ rfl, h0 1 _ rfl, _, h0 2 _ rfl, Reads.nil _ _⟩
    | 1, hx => cases hx; exact ⟨h0 3 _ rfl, h0 4 _ rfl, _, h0 5 _ rfl, Reads.nil _ _⟩
  have hB3 : Below w.heap.size w w3 := (HB2.out.alloc HB2.out.size _).trans (hb3.mono (by have := HB2.out.size; simp; omega))
  have HB3 := Lib.hid hB3
  clear hb3 hB3
  have hE := Lib.hid (encode_any shownItem _ _ (by rw [shown_size]; omega) (by rw [shown_put]; omega) hrd)
  rw [shown_encode] at hE
  have hD := Lib.hid fun W => decode_any shownBytes W (by decide)
  clear hrd
  go_wp2_with fail
  refine hE.out.mono ?_
  rintro e w4 ⟨rfl, hb4⟩
  have HB4 := Lib.hid (HB3.out.trans (hb4.mono HB3.out.size))
  clear hb4
  go_wp2_with fail
  refine (hD.out _).mono ?_
  rintro e w5 ⟨hb5, x, n, p, c, rfl, HX, HR⟩
  obtain ⟨rfl, rfl⟩ : x = shownItem ∧ n = 0 := by have := HX.out; rw [shown_decode] at this; cases this; exact ⟨rfl, rfl⟩
  have HB5 := Lib.hid (HB4.out.trans (hb5.mono HB4.out.size))
  clear hb5
  go_wp2_with fail
  go_ret
  exact ⟨rfl, HB5.out.alloc HB5.out.size _⟩
end Go.Proofs.YtjccllfgendpdaaDoor
