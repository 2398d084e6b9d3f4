/- Contracts of rlp.Text and rlp.List. -/
import Derived.Test.YthicdhnjincflaaDoorDecA
namespace Go.Proofs.YthicdhnjincflaaDoor
open Go.RowKit Go.Shelf Go.Lib

theorem results_item0 {fn : Func} {p : Tmp} (h : fn.results = #[.cell p 58]) (tmps : Array Value) (w : World) (g : Nat) (v0 v1 v2 : Value) (hp : tmps.getD p undef = .pointer (some ⟨g, 0, none⟩))
    (h0 : w.cell? ⟨g, 0, none⟩ = some v0) (h1 : w.cell? ⟨g, 1, none⟩ = some v1) (h2 : w.cell? ⟨g, 2, none⟩ = some v2) :
    (results fn tmps).run Tryd.prog w = .ok (.agg #[v0, v1, v2]) w := by
  have hp' : tmps[p]?.getD undef = .pointer (some ⟨g, 0, none⟩) := by simpa using hp
  simp [results, h, hp', asAddr, loadItem w g v0 v1 v2 h0 h1 h2]
set_option maxRecDepth 100000 in
theorem text_any (s : ByteArray) (w : World) : Calls Tryd.prog 39 #[.string s] w fun e w' => e = .returned (.agg #[.bool false, .string s, .slice none 0 0]) ∧ Below w.heap.size w w' := by
  go_enter Tryd.func39, Tryd.ntmps39
  go_wp2
  refine bodyPost_ret (results_item0 rfl _ _ w.heap.size (.bool false) (.string s) (.slice none 0 0) rfl ?_ ?_ ?_) rfl ?_
  · simp [go_sem]
  · simp [go_sem]
  · simp [go_sem]
  exact ⟨rfl, laid1 w _⟩
set_option maxRecDepth 100000 in
theorem list_any (p : Option Addr) (n c : Nat) (w : World) : Calls Tryd.prog 108 #[.slice p n c] w fun e w' => e = .returned (.agg #[.bool true, .string ⟨#[]⟩, .slice p n c]) ∧ Below w.heap.size w w' := by
  go_enter Tryd.func108, Tryd.ntmps108
  go_wp2
  refine bodyPost_ret (results_item0 rfl _ _ w.heap.size (.bool true) (.string ⟨#[]⟩) (.slice p n c) rfl ?_ ?_ ?_) rfl ?_
  · simp [go_sem]
  · simp [go_sem]
  · simp [go_sem]
  exact ⟨rfl, laid1 w _⟩

theorem cells_at (w : World) (xs : List Value) (t : TypeId) (j : Nat) (u : Value) (h : xs[j]? = some u) : (w.alloc (.cells xs.toArray t)).cell? ⟨w.heap.size, j, none⟩ = some u := by
  rw [World.cell?_alloc_mark]
  simpa using h
end Go.Proofs.YthicdhnjincflaaDoor
