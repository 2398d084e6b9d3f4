/- An argument that is a Light, or a committee: what it reads as. -/
import Derived.Test.YtfbopnebfdkhdaaDoorHedO
namespace Go.Proofs.YtfbopnebfdkhdaaDoor
open Go.RowKit Go.ChangeShapes Go.WideShapes

set_option maxRecDepth 100000 in
theorem light_of_trod {H : Type} {enc : TypeId × Value → H} {W : World} {fuel : Nat} {cs : List Value} {x : DataW H × List MemPlace} (h : DataW.trod enc Tryd.prog W 0 (fun _ => true) true fuel 37 cs = some x) :
    ∃ (n m : Nat) (a b c d e : ByteArray) (k : Nat) (v : Value) (l : List ByteArray), cs = [.int .u64 n, .int .u64 m, .string a, .string b, .string c, .string d, .string e, .int .u64 k, v] ∧ n < 18446744073709551616 ∧ m < 18446744073709551616 ∧ k < 18446744073709551616 ∧ Strs W v l ∧
      a.size + b.size + c.size + (d.size + e.size) + weightS l ≤ Rows.uptoBulk x.1 := by
  obtain ⟨xs, m, rfl, rfl, hl, hlen, hf⟩ := DataW.trod_struct Tryd.underlying37 h
  have hc9 : Tryd.prog.cellsOf 37 = 9 := by kernel_rfl
  rw [hc9] at hl
  match cs, hl, xs, hlen with
  | [c0, c1, c2, c3, c4, c5, c6, c7, c8], _, [y0, y1, y2], _ =>
    have h0 := hf 0 _ rfl
    have h1 := hf 1 _ rfl
    have h2 := hf 2 _ rfl
    obtain ⟨n0, m0, s2, s3, s4, e0, f0, f1, b0⟩ := header_of_trod h0
    obtain ⟨s5, s6, n7, e1, f2, b1⟩ := exec_of_trod h1
    obtain ⟨v, l, e2, hs, b2⟩ := strs_of_trod h2
    cases e0; cases e1; cases e2
    refine ⟨n0, m0, s2, s3, s4, s5, s6, n7, _, l, rfl, f0, f1, f2, hs, ?_⟩
    simp only [List.getElem?_cons_zero, List.getElem?_cons_succ] at *
    simp only [List.map_cons, List.map_nil, Rows.uptoBulk, Rows.uptoBulkAll]
    omega
set_option maxRecDepth 100000 in
theorem open_light {H : Type} {enc : TypeId × Value → H} {W : World} {r : Reach} {b0 : Nat} {v : Value} {d : DataW H} {ps : List MemPlace} (hval : Value.okWide Tryd.prog W r b0 37 v) (hd : DataW.Trod enc Tryd.prog W 0 (fun _ => true) true 37 v d ps) :
    ∃ (n m : Nat) (a b c d' e : ByteArray) (k : Nat) (u : Value) (l : List ByteArray), v = .agg #[.int .u64 n, .int .u64 m, .string a, .string b, .string c, .string d', .string e, .int .u64 k, u] ∧ n < 18446744073709551616 ∧ m < 18446744073709551616 ∧ k < 18446744073709551616 ∧ Strs W u l ∧
      a.size + b.size + c.size + (d'.size + e.size) + weightS l ≤ Rows.uptoBulk d := by
  obtain ⟨cs, rfl, _⟩ := okWide_struct Tryd.underlying37 hval
  obtain ⟨fuel, h⟩ := hd
  obtain ⟨n, m, a, b, c, d', e, k, u, l, hcs, h1⟩ := light_of_trod h
  refine ⟨n, m, a, b, c, d', e, k, u, l, ?_, h1⟩
  have : cs.toList = _ := hcs
  rw [← this]
set_option maxRecDepth 100000 in
theorem comm_of_trod {H : Type} {enc : TypeId × Value → H} {W : World} {fuel : Nat} {cs : List Value} {x : DataW H × List MemPlace} (h : DataW.trod enc Tryd.prog W 0 (fun _ => true) true fuel 44 cs = some x) :
    ∃ (v : Value) (l : List ByteArray) (s : ByteArray), cs = [v, .string s] ∧ Strs W v l ∧ weightS l + s.size ≤ Rows.uptoBulk x.1 := by
  obtain ⟨xs, m, rfl, rfl, hl, hlen, hf⟩ := DataW.trod_struct Tryd.underlying44 h
  have hc2 : Tryd.prog.cellsOf 44 = 2 := by kernel_rfl
  rw [hc2] at hl
  match cs, hl, xs, hlen with
  | [c0, c1], _, [y0, y1], _ =>
    have h0 := hf 0 _ rfl
    have h1 := hf 1 _ rfl
    obtain ⟨v, l, e0, hs, b0⟩ := strs_of_trod h0
    obtain ⟨s1, e1, r1, -⟩ := DataW.trod_string Tryd.underlying9 h1
    cases e0; cases e1
    refine ⟨_, l, s1, rfl, hs, ?_⟩
    simp only [List.getElem?_cons_zero, List.getElem?_cons_succ] at *
    subst r1
    simp only [List.map_cons, List.map_nil, Rows.uptoBulk, Rows.uptoBulkAll]
    have l1 : s1.data.toList.length = s1.size := rfl
    omega
set_option maxRecDepth 100000 in
theorem open_comm {H : Type} {enc : TypeId × Value → H} {W : World} {r : Reach} {b0 : Nat} {v : Value} {d : DataW H} {ps : List MemPlace} (hval : Value.okWide Tryd.prog W r b0 44 v) (hd : DataW.Trod enc Tryd.prog W 0 (fun _ => true) true 44 v d ps) :
    ∃ (u : Value) (l : List ByteArray) (s : ByteArray), v = .agg #[u, .string s] ∧ Strs W u l ∧ weightS l + s.size ≤ Rows.uptoBulk d := by
  obtain ⟨cs, rfl, _⟩ := okWide_struct Tryd.underlying44 hval
  obtain ⟨fuel, h⟩ := hd
  obtain ⟨u, l, s, hcs, h1⟩ := comm_of_trod h
  refine ⟨u, l, s, ?_, h1⟩
  have : cs.toList = _ := hcs
  rw [← this]
end Go.Proofs.YtfbopnebfdkhdaaDoor
