/- Logs in memory; what receipts are as items, and as bytes. -/
import Derived.Test.YtmjblnhnadffmaaDoorTxtS
namespace Go.Proofs.YtmjblnhnadffmaaDoor
open Go.RowKit Go.Shelf Go.Lib

/-- a log -/
structure LogD where
  addr : ByteArray
  tops : List ByteArray
  data : ByteArray
/-- logs in memory -/
def Logs (w : World) (v : Value) (ls : List LogD) : Prop :=
  ∃ p c, v = .slice p ls.length c ∧ ls.length ≤ c ∧ (ls = [] ∨ ∃ bk o, p = some ⟨bk, o, none⟩ ∧ bk < w.heap.size ∧ ∀ (j : Nat) x, ls[j]? = some x → ∃ u, w.cell? ⟨bk, o + j * 3, none⟩ = some (.string x.addr) ∧ w.cell? ⟨bk, o + j * 3 + 1, none⟩ = some u ∧ w.cell? ⟨bk, o + j * 3 + 2, none⟩ = some (.string x.data) ∧ Strs w u x.tops)
theorem Logs.below {w w' : World} {v : Value} {ls : List LogD} (h : Logs w v ls) (hb : Below w.heap.size w w') : Logs w' v ls := by
  obtain ⟨p, c, hv, hc, h⟩ := h
  refine ⟨p, c, hv, hc, ?_⟩
  rcases h with h | ⟨bk, o, hp, hk, h⟩
  · exact .inl h
  · refine .inr ⟨bk, o, hp, Nat.lt_of_lt_of_le hk hb.size, fun j x hx => ?_⟩
    obtain ⟨u, h1, h2, h3, h4⟩ := h j x hx
    exact ⟨u, (hb.cell (p := ⟨bk, o + j * 3, none⟩) hk).trans h1, (hb.cell (p := ⟨bk, o + j * 3 + 1, none⟩) hk).trans h2, (hb.cell (p := ⟨bk, o + j * 3 + 2, none⟩) hk).trans h3, h4.below hb⟩
theorem Logs.nil (w : World) : Logs w (.slice none 0 0) [] := ⟨none, 0, rfl, Nat.le_refl _, .inl rfl⟩
theorem Logs.form {w : World} {v : Value} {ls : List LogD} (h : Logs w v ls) : ∃ p c, v = .slice p ls.length c := by
  obtain ⟨p, c, hv, _⟩ := h
  exact ⟨p, c, hv⟩
theorem Logs.at {w : World} {p : Option Addr} {n c : Nat} {ls : List LogD} (h : Logs w (.slice p n c) ls) (h0 : 0 < n) :
    n = ls.length ∧ ∃ bk o, p = some ⟨bk, o, none⟩ ∧ bk < w.heap.size ∧ ∀ (j : Nat) x, ls[j]? = some x → ∃ u, w.cell? ⟨bk, o + j * 3, none⟩ = some (.string x.addr) ∧ w.cell? ⟨bk, o + j * 3 + 1, none⟩ = some u ∧ w.cell? ⟨bk, o + j * 3 + 2, none⟩ = some (.string x.data) ∧ Strs w u x.tops := by
  obtain ⟨p', c', hv, _, h⟩ := h
  cases hv
  refine ⟨rfl, ?_⟩
  rcases h with rfl | h
  · simp at h0
  · exact h
theorem Strs.form {w : World} {v : Value} {xs : List ByteArray} (h : Strs w v xs) : ∃ p c, v = .slice p xs.length c := by
  obtain ⟨p, c, hv, _⟩ := h
  exact ⟨p, c, hv⟩
theorem Strs.at {w : World} {p : Option Addr} {n c : Nat} {xs : List ByteArray} (h : Strs w (.slice p n c) xs) (h0 : 0 < n) :
    n = xs.length ∧ ∃ bk o, p = some ⟨bk, o, none⟩ ∧ bk < w.heap.size ∧ ∀ (j : Nat) x, xs[j]? = some x → w.cell? ⟨bk, o + j, none⟩ = some (.string x) := by
  obtain ⟨p', c', hv, _, h⟩ := h
  cases hv
  refine ⟨rfl, ?_⟩
  rcases h with rfl | h
  · simp at h0
  · exact h
theorem Strs.nil (w : World) : Strs w (.slice none 0 0) [] := ⟨none, 0, rfl, Nat.le_refl _, .inl rfl⟩
/-- is a log right? -/
def rightTop (t : ByteArray) : Bool := decide (t.size = 32)
def rightLog (l : LogD) : Bool := decide (l.addr.size = 20) && (decide (l.tops.length ≤ 4) && l.tops.all rightTop)
/-- a text, a log, a receipt as items -/
def textItem (t : ByteArray) : Item := .mk false t.data.toList []
def topsItem (l : LogD) : Item := .mk true [] (l.tops.map textItem)
def logItem (l : LogD) : Item := .mk true [] [textItem l.addr, topsItem l, textItem l.data]
def goodL (b : Bool) : List UInt8 := bif b then [1] else []
def rcptItem (good : Bool) (gas : Nat) (ls : List LogD) : Item := .mk true [] [.mk false (goodL good) [], .mk false (num gas) [], .mk true [] (ls.map logItem)]
/-- a receipt's bytes -/
def rcptRight (ls : List LogD) : Bool := ls.all rightLog && decide (ls.length ≤ 20)
def rcptBytes (good : Bool) (gas : Nat) (ls : List LogD) : List UInt8 × Int := bif rcptRight ls then encode (rcptItem good gas ls) else ([], 160)
/-- how much logs weigh -/
def weightL : List LogD → Nat
  | [] => 0
  | l :: r => 1 + l.addr.size + weightT l.tops + l.data.size + weightL r
where weightT : List ByteArray → Nat
  | [] => 0
  | t :: r => 1 + t.size + weightT r
end Go.Proofs.YtmjblnhnadffmaaDoor
