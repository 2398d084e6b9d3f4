/- An argument that is a header, what a block did, or a row of texts: what it reads as. -/
import Derived.Test.YtfbopnebfdkhdaaDoorShaE
import Derived.Test.YtfbopnebfdkhdaaDoorRows
import Derived.Deep.Slices
import Derived.ChangeArms
import Derived.DataReads
import Derived.OpenShut
namespace Go.Proofs.YtfbopnebfdkhdaaDoor
open Go.RowKit Go.ChangeShapes Go.WideShapes

theorem u64_natH {n : Int} (h : (Lit.int .u64 n).wf = true) : ∃ k : Nat, n = k ∧ k < 18446744073709551616 := by
  have h1 : IntKind.u64.min ≤ n ∧ n ≤ IntKind.u64.max := by simpa [Lit.wf] using h
  have h2 : IntKind.u64.min = 0 := by decide
  have h3 : IntKind.u64.max = 18446744073709551615 := by decide
  rw [h2, h3] at h1
  exact ⟨n.toNat, by omega, by omega⟩
/-- a header as a value -/
def headerV (n m : Nat) (a b c : ByteArray) : Value := .agg #[.int .u64 n, .int .u64 m, .string a, .string b, .string c]
/-- what a block did, as a value -/
def execV (a b : ByteArray) (n : Nat) : Value := .agg #[.string a, .string b, .int .u64 n]
set_option maxRecDepth 100000 in
theorem header_of_trod {H : Type} {enc : TypeId × Value → H} {W : World} {fuel : Nat} {cs : List Value} {x : DataW H × List MemPlace} (h : DataW.trod enc Tryd.prog W 0 (fun _ => true) true fuel 24 cs = some x) :
    ∃ (n m : Nat) (a b c : ByteArray), cs = [.int .u64 n, .int .u64 m, .string a, .string b, .string c] ∧ n < 18446744073709551616 ∧ m < 18446744073709551616 ∧ a.size + b.size + c.size ≤ Rows.uptoBulk x.1 := by
  obtain ⟨xs, m, rfl, rfl, hl, hlen, hf⟩ := DataW.trod_struct Tryd.underlying24 h
  have hc5 : Tryd.prog.cellsOf 24 = 5 := by kernel_rfl
  rw [hc5] at hl
  match cs, hl, xs, hlen with
  | [c0, c1, c2, c3, c4], _, [y0, y1, y2, y3, y4], _ =>
    have h0 := hf 0 _ rfl
    have h1 := hf 1 _ rfl
    have h2 := hf 2 _ rfl
    have h3 := hf 3 _ rfl
    have h4 := hf 4 _ rfl
    obtain ⟨n0, e0, r0, f0⟩ := DataW.trod_int Tryd.underlying22 h0
    obtain ⟨n1, e1, r1, f1⟩ := DataW.trod_int Tryd.underlying22 h1
    obtain ⟨s2, e2, r2, -⟩ := DataW.trod_string Tryd.underlying9 h2
    obtain ⟨s3, e3, r3, -⟩ := DataW.trod_string Tryd.underlying9 h3
    obtain ⟨s4, e4, r4, -⟩ := DataW.trod_string Tryd.underlying9 h4
    cases e0; cases e1; cases e2; cases e3; cases e4
    obtain ⟨k0, rfl, g0⟩ := u64_natH f0
    obtain ⟨k1, rfl, g1⟩ := u64_natH f1
    refine ⟨k0, k1, s2, s3, s4, rfl, g0, g1, ?_⟩
    subst r0 r1 r2 r3 r4
    simp only [List.map_cons, List.map_nil, Rows.uptoBulk, Rows.uptoBulkAll]
    have l2 : s2.data.toList.length = s2.size := rfl
    have l3 : s3.data.toList.length = s3.size := rfl
    have l4 : s4.data.toList.length = s4.size := rfl
    omega
set_option maxRecDepth 100000 in
theorem open_header {H : Type} {enc : TypeId × Value → H} {W : World} {r : Reach} {b0 : Nat} {v : Value} {d : DataW H} {ps : List MemPlace} (hval : Value.okWide Tryd.prog W r b0 24 v) (hd : DataW.Trod enc Tryd.prog W 0 (fun _ => true) true 24 v d ps) :
    ∃ (n m : Nat) (a b c : ByteArray), v = headerV n m a b c ∧ n < 18446744073709551616 ∧ m < 18446744073709551616 ∧ a.size + b.size + c.size ≤ Rows.uptoBulk d := by
  obtain ⟨cs, rfl, _⟩ := okWide_struct Tryd.underlying24 hval
  obtain ⟨fuel, h⟩ := hd
  obtain ⟨n, m, a, b, c, hcs, h1, h2, h3⟩ := header_of_trod h
  refine ⟨n, m, a, b, c, ?_, h1, h2, h3⟩
  unfold headerV
  have : cs.toList = [.int .u64 n, .int .u64 m, .string a, .string b, .string c] := hcs
  rw [← this]
set_option maxRecDepth 100000 in
theorem exec_of_trod {H : Type} {enc : TypeId × Value → H} {W : World} {fuel : Nat} {cs : List Value} {x : DataW H × List MemPlace} (h : DataW.trod enc Tryd.prog W 0 (fun _ => true) true fuel 34 cs = some x) :
    ∃ (a b : ByteArray) (n : Nat), cs = [.string a, .string b, .int .u64 n] ∧ n < 18446744073709551616 ∧ a.size + b.size ≤ Rows.uptoBulk x.1 := by
  obtain ⟨xs, m, rfl, rfl, hl, hlen, hf⟩ := DataW.trod_struct Tryd.underlying34 h
  have hc3 : Tryd.prog.cellsOf 34 = 3 := by kernel_rfl
  rw [hc3] at hl
  match cs, hl, xs, hlen with
  | [c0, c1, c2], _, [y0, y1, y2], _ =>
    have h0 := hf 0 _ rfl
    have h1 := hf 1 _ rfl
    have h2 := hf 2 _ rfl
    obtain ⟨s0, e0, r0, -⟩ := DataW.trod_string Tryd.underlying9 h0
    obtain ⟨s1, e1, r1, -⟩ := DataW.trod_string Tryd.underlying9 h1
    obtain ⟨n2, e2, r2, f2⟩ := DataW.trod_int Tryd.underlying22 h2
    cases e0; cases e1; cases e2
    obtain ⟨k2, rfl, g2⟩ := u64_natH f2
    refine ⟨s0, s1, k2, rfl, g2, ?_⟩
    subst r0 r1 r2
    simp only [List.map_cons, List.map_nil, Rows.uptoBulk, Rows.uptoBulkAll]
    have l0 : s0.data.toList.length = s0.size := rfl
    have l1 : s1.data.toList.length = s1.size := rfl
    omega
set_option maxRecDepth 100000 in
theorem open_exec {H : Type} {enc : TypeId × Value → H} {W : World} {r : Reach} {b0 : Nat} {v : Value} {d : DataW H} {ps : List MemPlace} (hval : Value.okWide Tryd.prog W r b0 34 v) (hd : DataW.Trod enc Tryd.prog W 0 (fun _ => true) true 34 v d ps) :
    ∃ (a b : ByteArray) (n : Nat), v = execV a b n ∧ n < 18446744073709551616 ∧ a.size + b.size ≤ Rows.uptoBulk d := by
  obtain ⟨cs, rfl, _⟩ := okWide_struct Tryd.underlying34 hval
  obtain ⟨fuel, h⟩ := hd
  obtain ⟨a, b, n, hcs, h1, h2⟩ := exec_of_trod h
  refine ⟨a, b, n, ?_, h1, h2⟩
  unfold execV
  have : cs.toList = [.string a, .string b, .int .u64 n] := hcs
  rw [← this]
theorem bulkAll_appendH {H : Type} (l r : List (DataW H)) : Rows.uptoBulkAll (l ++ r) = Rows.uptoBulkAll l + Rows.uptoBulkAll r := by
  induction l with
  | nil => simp [Rows.uptoBulkAll]
  | cons x l ih => simp only [List.cons_append, Rows.uptoBulkAll, ih]; omega
/-- letters and texts together -/
def weightS : List ByteArray → Nat
  | [] => 0
  | x :: r => x.size + 1 + weightS r
theorem weightS_append (l r : List ByteArray) : weightS (l ++ r) = weightS l + weightS r := by
  induction l with
  | nil => simp [weightS]
  | cons x l ih => simp only [List.cons_append, weightS, ih]; omega
theorem weightS_mem {l : List ByteArray} {x : ByteArray} (h : x ∈ l) : x.size + l.length ≤ weightS l := by
  induction l with
  | nil => cases h
  | cons y l ih =>
    have hlen : ∀ r : List ByteArray, r.length ≤ weightS r := by
      intro r
      induction r with
      | nil => simp [weightS]
      | cons z r ih => simp only [List.length_cons, weightS]; omega
    rcases List.mem_cons.1 h with rfl | h
    · have := hlen l
      simp only [List.length_cons, weightS]; omega
    · have := ih h
      simp only [List.length_cons, weightS]; omega
theorem weightS_len (l : List ByteArray) : l.length ≤ weightS l := by
  induction l with
  | nil => simp [weightS]
  | cons z r ih => simp only [List.length_cons, weightS]; omega
set_option maxRecDepth 100000 in
theorem strs_of_trod {H : Type} {enc : TypeId × Value → H} {W : World} {fuel : Nat} {cs : List Value} {x : DataW H × List MemPlace} (h : DataW.trod enc Tryd.prog W 0 (fun _ => true) true fuel 30 cs = some x) :
    ∃ (v : Value) (l : List ByteArray), cs = [v] ∧ Strs W v l ∧ weightS l ≤ Rows.uptoBulk x.1 := by
  rcases DataW.trod_slice Tryd.underlying30 h with ⟨e2, rfl⟩ | ⟨a, len, cap, elems, rest, n', rfl, e2, rfl, _, hcap, _, hel, hat, _⟩
  · exact ⟨_, [], e2, ⟨none, 0, rfl, Nat.le_refl _, .inl rfl⟩, by simp [weightS]⟩
  · have hc1 : Tryd.prog.cellsOf 9 = 1 := by kernel_rfl
    have key : ∀ k, k ≤ len → ∃ l : List ByteArray, l.length = k ∧ weightS l ≤ Rows.uptoBulkAll ((elems.take k).map (·.1)) ∧ ∀ i (y : ByteArray), l[i]? = some y → W.cell? (a.add i) = some (.string y) := by
      intro k
      induction k with
      | zero => exact fun _ => ⟨[], rfl, by simp [weightS], fun i y h => by cases h⟩
      | succ k ihk =>
        intro hk
        obtain ⟨l, hl, hw, hl2⟩ := ihk (by omega)
        have hek : elems[k]? = some elems[k] := List.getElem?_eq_getElem (by omega)
        have h3 := hat k (by omega)
        rw [hek, hc1, Nat.mul_one] at h3
        cases hcs : W.cells? 0 (a.add k) 1 with
        | none => rw [hcs] at h3; cases h3
        | some cs' =>
          rw [hcs] at h3
          obtain ⟨s, hs, hr, -⟩ := DataW.trod_string Tryd.underlying9 h3
          obtain ⟨_, _, hcell⟩ := World.cells?_some hcs
          subst hs
          refine ⟨l ++ [s], by simp [hl], ?_, fun i z hz => ?_⟩
          · rw [weightS_append, List.take_add_one, hek]
            have hr' : elems[k].1 = .lit (.string s.data.toList) := by rw [hr]
            simp only [Option.toList_some, List.map_append, List.map_cons, List.map_nil, bulkAll_appendH, weightS, Rows.uptoBulkAll, hr', Rows.uptoBulk]
            have l2 : s.data.toList.length = s.size := rfl
            omega
          · by_cases hik : i < k
            · exact hl2 i z (by rwa [List.getElem?_append_left (by omega)] at hz)
            · rw [List.getElem?_append_right (by omega)] at hz
              have hi : i = k := by
                have := (List.getElem?_eq_some_iff.1 hz).1
                simp at this
                omega
              subst hi
              rw [hl, Nat.sub_self] at hz
              cases hz
              have c0 := hcell 0 (by omega)
              rw [Addr.add_add] at c0
              exact c0
    obtain ⟨l, hl, hw, hcell⟩ := key len (Nat.le_refl _)
    refine ⟨_, l, e2, ?_, ?_⟩
    · refine ⟨some a, cap, by rw [hl], by omega, ?_⟩
      cases l with
      | nil => exact .inl rfl
      | cons y r =>
        have c0 := hcell 0 y rfl
        have hsp := World.cell?_spot c0
        have hlt := World.block_lt_of_cell? W _ c0
        have e0 : a.add 0 = a := by unfold Addr.add; simp
        rw [e0] at hsp hlt
        obtain ⟨g, o, sp⟩ := a
        cases hsp
        have ea : ∀ j, (⟨g, o, none⟩ : Addr).add j = ⟨g, o + j, none⟩ := fun j => by unfold Addr.add; split <;> simp_all
        refine .inr ⟨g, o, rfl, hlt, fun j x hx => ?_⟩
        rw [← ea]
        exact hcell j x hx
    · rw [List.take_of_length_le (by omega)] at hw
      simp only [Rows.uptoBulk] at hw ⊢
      omega
set_option maxRecDepth 100000 in
theorem open_strs {H : Type} {enc : TypeId × Value → H} {W : World} {r : Reach} {b0 : Nat} {v : Value} {d : DataW H} {ps : List MemPlace} (hval : Value.okWide Tryd.prog W r b0 30 v) (hd : DataW.Trod enc Tryd.prog W 0 (fun _ => true) true 30 v d ps) :
    ∃ l : List ByteArray, Strs W v l ∧ weightS l ≤ Rows.uptoBulk d := by
  obtain ⟨fuel, hf⟩ := hd
  obtain ⟨u, l, hcs, hs, hw⟩ := strs_of_trod hf
  obtain ⟨p, n, c, rfl⟩ := okWide_slice Tryd.underlying30 hval
  obtain rfl : Value.slice p n c = u := by simpa [Value.cells] using hcs
  exact ⟨l, hs, hw⟩
end Go.Proofs.YtfbopnebfdkhdaaDoor
/- An argument that is a Light, or a committee: what it reads as. -/
namespace Go.Proofs.YtfbopnebfdkhdaaDoor
open Go.RowKit Go.ChangeShapes Go.WideShapes

set_option maxRecDepth 100000 in
theorem light_of_trod {H : Type} {enc : TypeId × Value → H} {W : World} {fuel : Nat} {cs : List Value} {x : DataW H × List MemPlace} (h : DataW.trod enc Tryd.prog W 0 (fun _ => true) true fuel 37 cs = some x) :
    ∃ (n m : Nat) (a b c d e : ByteArray) (k : Nat) (v : Value) (l : List ByteArray), cs = [.int .u64 n, .int .u64 m, .string a, .string b, .string c, .string d, .string e, .int .u64 k, v] ∧ n < 18446744073709551616 ∧ m < 18446744073709551616 ∧ k < 18446744073709551616 ∧ Strs W v l ∧
      a.size + b.size + c.size + (d.size + e.size) + weightS l ≤ Rows.uptoBulk x.1 := by
  obtain ⟨xs, m, rfl, rfl, hl, hlen, hf⟩ := DataW.trod_struct Tryd.underlying37 h
  have hc9 : Tryd.prog.cellsOf 37 = 9 := by kernel_rfl
  rw [hc9] at hl
  match cs, hl, xs, hlen with
  | [c0, c1, c2, c3, c4, c5, c6, c7, c8], _, [y0, y1, y2], _ =>
    have h0 := hf 0 _ rfl
    have h1 := hf 1 _ rfl
    have h2 := hf 2 _ rfl
    obtain ⟨n0, m0, s2, s3, s4, e0, f0, f1, b0⟩ := header_of_trod h0
    obtain ⟨s5, s6, n7, e1, f2, b1⟩ := exec_of_trod h1
    obtain ⟨v, l, e2, hs, b2⟩ := strs_of_trod h2
    cases e0; cases e1; cases e2
    refine ⟨n0, m0, s2, s3, s4, s5, s6, n7, _, l, rfl, f0, f1, f2, hs, ?_⟩
    simp only [List.getElem?_cons_zero, List.getElem?_cons_succ] at *
    simp only [List.map_cons, List.map_nil, Rows.uptoBulk, Rows.uptoBulkAll]
    omega
set_option maxRecDepth 100000 in
theorem open_light {H : Type} {enc : TypeId × Value → H} {W : World} {r : Reach} {b0 : Nat} {v : Value} {d : DataW H} {ps : List MemPlace} (hval : Value.okWide Tryd.prog W r b0 37 v) (hd : DataW.Trod enc Tryd.prog W 0 (fun _ => true) true 37 v d ps) :
    ∃ (n m : Nat) (a b c d' e : ByteArray) (k : Nat) (u : Value) (l : List ByteArray), v = .agg #[.int .u64 n, .int .u64 m, .string a, .string b, .string c, .string d', .string e, .int .u64 k, u] ∧ n < 18446744073709551616 ∧ m < 18446744073709551616 ∧ k < 18446744073709551616 ∧ Strs W u l ∧
      a.size + b.size + c.size + (d'.size + e.size) + weightS l ≤ Rows.uptoBulk d := by
  obtain ⟨cs, rfl, _⟩ := okWide_struct Tryd.underlying37 hval
  obtain ⟨fuel, h⟩ := hd
  obtain ⟨n, m, a, b, c, d', e, k, u, l, hcs, h1⟩ := light_of_trod h
  refine ⟨n, m, a, b, c, d', e, k, u, l, ?_, h1⟩
  have : cs.toList = _ := hcs
  rw [← this]
set_option maxRecDepth 100000 in
theorem comm_of_trod {H : Type} {enc : TypeId × Value → H} {W : World} {fuel : Nat} {cs : List Value} {x : DataW H × List MemPlace} (h : DataW.trod enc Tryd.prog W 0 (fun _ => true) true fuel 44 cs = some x) :
    ∃ (v : Value) (l : List ByteArray) (s : ByteArray), cs = [v, .string s] ∧ Strs W v l ∧ weightS l + s.size ≤ Rows.uptoBulk x.1 := by
  obtain ⟨xs, m, rfl, rfl, hl, hlen, hf⟩ := DataW.trod_struct Tryd.underlying44 h
  have hc2 : Tryd.prog.cellsOf 44 = 2 := by kernel_rfl
  rw [hc2] at hl
  match cs, hl, xs, hlen with
  | [c0, c1], _, [y0, y1], _ =>
    have h0 := hf 0 _ rfl
    have h1 := hf 1 _ rfl
    obtain ⟨v, l, e0, hs, b0⟩ := strs_of_trod h0
    obtain ⟨s1, e1, r1, -⟩ := DataW.trod_string Tryd.underlying9 h1
    cases e0; cases e1
    refine ⟨_, l, s1, rfl, hs, ?_⟩
    simp only [List.getElem?_cons_zero, List.getElem?_cons_succ] at *
    subst r1
    simp only [List.map_cons, List.map_nil, Rows.uptoBulk, Rows.uptoBulkAll]
    have l1 : s1.data.toList.length = s1.size := rfl
    omega
set_option maxRecDepth 100000 in
theorem open_comm {H : Type} {enc : TypeId × Value → H} {W : World} {r : Reach} {b0 : Nat} {v : Value} {d : DataW H} {ps : List MemPlace} (hval : Value.okWide Tryd.prog W r b0 44 v) (hd : DataW.Trod enc Tryd.prog W 0 (fun _ => true) true 44 v d ps) :
    ∃ (u : Value) (l : List ByteArray) (s : ByteArray), v = .agg #[u, .string s] ∧ Strs W u l ∧ weightS l + s.size ≤ Rows.uptoBulk d := by
  obtain ⟨cs, rfl, _⟩ := okWide_struct Tryd.underlying44 hval
  obtain ⟨fuel, h⟩ := hd
  obtain ⟨u, l, s, hcs, h1⟩ := comm_of_trod h
  refine ⟨u, l, s, ?_, h1⟩
  have : cs.toList = _ := hcs
  rw [← this]
end Go.Proofs.YtfbopnebfdkhdaaDoor

/- An argument that is a Boot, or an Update: what it reads as. -/
namespace Go.Proofs.YtfbopnebfdkhdaaDoor
open Go.RowKit Go.ChangeShapes Go.WideShapes

set_option maxRecDepth 100000 in
theorem boot_of_trod {H : Type} {enc : TypeId × Value → H} {W : World} {fuel : Nat} {cs : List Value} {x : DataW H × List MemPlace} (h : DataW.trod enc Tryd.prog W 0 (fun _ => true) true fuel 48 cs = some x) :
    ∃ (nb0 mb0 : Nat) (ab0 bb0 cb0 db0 eb0 : ByteArray) (kb0 : Nat) (Vb0 : Value) (brb0 : List ByteArray) (Vb1 : Value) (brb1 : List ByteArray) (sb1 : ByteArray) (Vb2 : Value) (brb2 : List ByteArray), cs = [.int .u64 nb0, .int .u64 mb0, .string ab0, .string bb0, .string cb0, .string db0, .string eb0, .int .u64 kb0, Vb0, Vb1, .string sb1, Vb2] ∧ nb0 < 18446744073709551616 ∧ mb0 < 18446744073709551616 ∧ kb0 < 18446744073709551616 ∧ Strs W Vb0 brb0 ∧ Strs W Vb1 brb1 ∧ Strs W Vb2 brb2 ∧ (ab0.size + bb0.size + cb0.size + (db0.size + eb0.size) + weightS brb0) + (weightS brb1 + sb1.size) + weightS brb2 ≤ Rows.uptoBulk x.1 := by
  obtain ⟨xs, m, rfl, rfl, hl, hlen, hf⟩ := DataW.trod_struct Tryd.underlying48 h
  have hcN : Tryd.prog.cellsOf 48 = 12 := by kernel_rfl
  rw [hcN] at hl
  match cs, hl, xs, hlen with
  | [c0, c1, c2, c3, c4, c5, c6, c7, c8, c9, c10, c11], _, [y0, y1, y2], _ =>
    have h0 := hf 0 _ rfl
    have h1 := hf 1 _ rfl
    have h2 := hf 2 _ rfl
    obtain ⟨nb0, mb0, ab0, bb0, cb0, db0, eb0, kb0, Vb0, brb0, e_0, f1b0, f2b0, f3b0, f4b0, gb0⟩ := light_of_trod h0
    obtain ⟨Vb1, brb1, sb1, e_1, f1b1, gb1⟩ := comm_of_trod h1
    obtain ⟨Vb2, brb2, e_2, f1b2, gb2⟩ := strs_of_trod h2
    cases e_0; cases e_1; cases e_2
    refine ⟨nb0, mb0, ab0, bb0, cb0, db0, eb0, kb0, _, brb0, _, brb1, sb1, _, brb2, rfl, f1b0, f2b0, f3b0, f4b0, f1b1, f1b2, ?_⟩
    simp only [List.getElem?_cons_zero, List.getElem?_cons_succ] at *
    simp only [List.map_cons, List.map_nil, Rows.uptoBulk, Rows.uptoBulkAll]
    omega
set_option maxRecDepth 100000 in
theorem open_boot {H : Type} {enc : TypeId × Value → H} {W : World} {r : Reach} {b0 : Nat} {v : Value} {d : DataW H} {ps : List MemPlace} (hval : Value.okWide Tryd.prog W r b0 48 v) (hd : DataW.Trod enc Tryd.prog W 0 (fun _ => true) true 48 v d ps) :
    ∃ (nb0 mb0 : Nat) (ab0 bb0 cb0 db0 eb0 : ByteArray) (kb0 : Nat) (Vb0 : Value) (brb0 : List ByteArray) (Vb1 : Value) (brb1 : List ByteArray) (sb1 : ByteArray) (Vb2 : Value) (brb2 : List ByteArray), v = .agg #[.int .u64 nb0, .int .u64 mb0, .string ab0, .string bb0, .string cb0, .string db0, .string eb0, .int .u64 kb0, Vb0, Vb1, .string sb1, Vb2] ∧ nb0 < 18446744073709551616 ∧ mb0 < 18446744073709551616 ∧ kb0 < 18446744073709551616 ∧ Strs W Vb0 brb0 ∧ Strs W Vb1 brb1 ∧ Strs W Vb2 brb2 ∧ (ab0.size + bb0.size + cb0.size + (db0.size + eb0.size) + weightS brb0) + (weightS brb1 + sb1.size) + weightS brb2 ≤ Rows.uptoBulk d := by
  obtain ⟨cs, rfl, _⟩ := okWide_struct Tryd.underlying48 hval
  obtain ⟨fuel, h⟩ := hd
  obtain ⟨nb0, mb0, ab0, bb0, cb0, db0, eb0, kb0, Vb0, brb0, Vb1, brb1, sb1, Vb2, brb2, hcs, hr⟩ := boot_of_trod h
  refine ⟨nb0, mb0, ab0, bb0, cb0, db0, eb0, kb0, Vb0, brb0, Vb1, brb1, sb1, Vb2, brb2, ?_, hr⟩
  have : cs.toList = _ := hcs
  rw [← this]
set_option maxRecDepth 100000 in
theorem upd_of_trod {H : Type} {enc : TypeId × Value → H} {W : World} {fuel : Nat} {cs : List Value} {x : DataW H × List MemPlace} (h : DataW.trod enc Tryd.prog W 0 (fun _ => true) true fuel 52 cs = some x) :
    ∃ (nu0 mu0 : Nat) (au0 bu0 cu0 du0 eu0 : ByteArray) (ku0 : Nat) (Vu0 : Value) (bru0 : List ByteArray) (Vu1 : Value) (bru1 : List ByteArray) (su1 : ByteArray) (Vu2 : Value) (bru2 : List ByteArray) (nu3 mu3 : Nat) (au3 bu3 cu3 du3 eu3 : ByteArray) (ku3 : Nat) (Vu3 : Value) (bru3 : List ByteArray) (Vu4 : Value) (bru4 : List ByteArray) (nu5 : Nat) (su6 : ByteArray) (nu7 : Nat), cs = [.int .u64 nu0, .int .u64 mu0, .string au0, .string bu0, .string cu0, .string du0, .string eu0, .int .u64 ku0, Vu0, Vu1, .string su1, Vu2, .int .u64 nu3, .int .u64 mu3, .string au3, .string bu3, .string cu3, .string du3, .string eu3, .int .u64 ku3, Vu3, Vu4, .int .u64 nu5, .string su6, .int .u64 nu7] ∧ nu0 < 18446744073709551616 ∧ mu0 < 18446744073709551616 ∧ ku0 < 18446744073709551616 ∧ Strs W Vu0 bru0 ∧ Strs W Vu1 bru1 ∧ Strs W Vu2 bru2 ∧ nu3 < 18446744073709551616 ∧ mu3 < 18446744073709551616 ∧ ku3 < 18446744073709551616 ∧ Strs W Vu3 bru3 ∧ Strs W Vu4 bru4 ∧ nu5 < 18446744073709551616 ∧ nu7 < 18446744073709551616 ∧ (au0.size + bu0.size + cu0.size + (du0.size + eu0.size) + weightS bru0) + (weightS bru1 + su1.size) + weightS bru2 + (au3.size + bu3.size + cu3.size + (du3.size + eu3.size) + weightS bru3) + weightS bru4 + 0 + su6.size + 0 ≤ Rows.uptoBulk x.1 := by
  obtain ⟨xs, m, rfl, rfl, hl, hlen, hf⟩ := DataW.trod_struct Tryd.underlying52 h
  have hcN : Tryd.prog.cellsOf 52 = 25 := by kernel_rfl
  rw [hcN] at hl
  match cs, hl, xs, hlen with
  | [c0, c1, c2, c3, c4, c5, c6, c7, c8, c9, c10, c11, c12, c13, c14, c15, c16, c17, c18, c19, c20, c21, c22, c23, c24], _, [y0, y1, y2, y3, y4, y5, y6, y7], _ =>
    have h0 := hf 0 _ rfl
    have h1 := hf 1 _ rfl
    have h2 := hf 2 _ rfl
    have h3 := hf 3 _ rfl
    have h4 := hf 4 _ rfl
    have h5 := hf 5 _ rfl
    have h6 := hf 6 _ rfl
    have h7 := hf 7 _ rfl
    obtain ⟨nu0, mu0, au0, bu0, cu0, du0, eu0, ku0, Vu0, bru0, e_0, f1u0, f2u0, f3u0, f4u0, gu0⟩ := light_of_trod h0
    obtain ⟨Vu1, bru1, su1, e_1, f1u1, gu1⟩ := comm_of_trod h1
    obtain ⟨Vu2, bru2, e_2, f1u2, gu2⟩ := strs_of_trod h2
    obtain ⟨nu3, mu3, au3, bu3, cu3, du3, eu3, ku3, Vu3, bru3, e_3, f1u3, f2u3, f3u3, f4u3, gu3⟩ := light_of_trod h3
    obtain ⟨Vu4, bru4, e_4, f1u4, gu4⟩ := strs_of_trod h4
    obtain ⟨Nu5, e_5, ru5, Fu5⟩ := DataW.trod_int Tryd.underlying22 h5
    obtain ⟨nu5, rfl, f1u5⟩ := u64_natH Fu5
    obtain ⟨su6, e_6, ru6, -⟩ := DataW.trod_string Tryd.underlying9 h6
    obtain ⟨Nu7, e_7, ru7, Fu7⟩ := DataW.trod_int Tryd.underlying22 h7
    obtain ⟨nu7, rfl, f1u7⟩ := u64_natH Fu7
    cases e_0; cases e_1; cases e_2; cases e_3; cases e_4; cases e_5; cases e_6; cases e_7
    refine ⟨nu0, mu0, au0, bu0, cu0, du0, eu0, ku0, _, bru0, _, bru1, su1, _, bru2, nu3, mu3, au3, bu3, cu3, du3, eu3, ku3, _, bru3, _, bru4, nu5, su6, nu7, rfl, f1u0, f2u0, f3u0, f4u0, f1u1, f1u2, f1u3, f2u3, f3u3, f4u3, f1u4, f1u5, f1u7, ?_⟩
    simp only [List.getElem?_cons_zero, List.getElem?_cons_succ] at *
    subst ru5 ru6 ru7
    simp only [List.map_cons, List.map_nil, Rows.uptoBulk, Rows.uptoBulkAll]
    have lu6 : su6.data.toList.length = su6.size := rfl
    omega
set_option maxRecDepth 100000 in
theorem open_upd {H : Type} {enc : TypeId × Value → H} {W : World} {r : Reach} {b0 : Nat} {v : Value} {d : DataW H} {ps : List MemPlace} (hval : Value.okWide Tryd.prog W r b0 52 v) (hd : DataW.Trod enc Tryd.prog W 0 (fun _ => true) true 52 v d ps) :
    ∃ (nu0 mu0 : Nat) (au0 bu0 cu0 du0 eu0 : ByteArray) (ku0 : Nat) (Vu0 : Value) (bru0 : List ByteArray) (Vu1 : Value) (bru1 : List ByteArray) (su1 : ByteArray) (Vu2 : Value) (bru2 : List ByteArray) (nu3 mu3 : Nat) (au3 bu3 cu3 du3 eu3 : ByteArray) (ku3 : Nat) (Vu3 : Value) (bru3 : List ByteArray) (Vu4 : Value) (bru4 : List ByteArray) (nu5 : Nat) (su6 : ByteArray) (nu7 : Nat), v = .agg #[.int .u64 nu0, .int .u64 mu0, .string au0, .string bu0, .string cu0, .string du0, .string eu0, .int .u64 ku0, Vu0, Vu1, .string su1, Vu2, .int .u64 nu3, .int .u64 mu3, .string au3, .string bu3, .string cu3, .string du3, .string eu3, .int .u64 ku3, Vu3, Vu4, .int .u64 nu5, .string su6, .int .u64 nu7] ∧ nu0 < 18446744073709551616 ∧ mu0 < 18446744073709551616 ∧ ku0 < 18446744073709551616 ∧ Strs W Vu0 bru0 ∧ Strs W Vu1 bru1 ∧ Strs W Vu2 bru2 ∧ nu3 < 18446744073709551616 ∧ mu3 < 18446744073709551616 ∧ ku3 < 18446744073709551616 ∧ Strs W Vu3 bru3 ∧ Strs W Vu4 bru4 ∧ nu5 < 18446744073709551616 ∧ nu7 < 18446744073709551616 ∧ (au0.size + bu0.size + cu0.size + (du0.size + eu0.size) + weightS bru0) + (weightS bru1 + su1.size) + weightS bru2 + (au3.size + bu3.size + cu3.size + (du3.size + eu3.size) + weightS bru3) + weightS bru4 + 0 + su6.size + 0 ≤ Rows.uptoBulk d := by
  obtain ⟨cs, rfl, _⟩ := okWide_struct Tryd.underlying52 hval
  obtain ⟨fuel, h⟩ := hd
  obtain ⟨nu0, mu0, au0, bu0, cu0, du0, eu0, ku0, Vu0, bru0, Vu1, bru1, su1, Vu2, bru2, nu3, mu3, au3, bu3, cu3, du3, eu3, ku3, Vu3, bru3, Vu4, bru4, nu5, su6, nu7, hcs, hr⟩ := upd_of_trod h
  refine ⟨nu0, mu0, au0, bu0, cu0, du0, eu0, ku0, Vu0, bru0, Vu1, bru1, su1, Vu2, bru2, nu3, mu3, au3, bu3, cu3, du3, eu3, ku3, Vu3, bru3, Vu4, bru4, nu5, su6, nu7, ?_, hr⟩
  have : cs.toList = _ := hcs
  rw [← this]
end Go.Proofs.YtfbopnebfdkhdaaDoor
