/- An argument that is a header, what a block did, or a row of texts: what it reads as. -/
import Derived.Test.YtfbopnebfdkhdaaDoorShaE
import Derived.Test.YtfbopnebfdkhdaaDoorRows
import Derived.Deep.Slices
import Derived.ChangeArms
import Derived.DataReads
import Derived.OpenShut
namespace Go.Proofs.YtfbopnebfdkhdaaDoor
open Go.RowKit Go.ChangeShapes Go.WideShapes

theorem u64_natH {n : Int} (h : (Lit.int .u64 n).wf = true) : ∃ k : Nat, n = k ∧ k < 18446744073709551616 := by
  have h1 : IntKind.u64.min ≤ n ∧ n ≤ IntKind.u64.max := by simpa [Lit.wf] using h
  have h2 : IntKind.u64.min = 0 := by decide
  have h3 : IntKind.u64.max = 18446744073709551615 := by decide
  rw [h2, h3] at h1
  exact ⟨n.toNat, by omega, by omega⟩
/-- a header as a value -/
def headerV (n m : Nat) (a b c : ByteArray) : Value := .agg #[.int .u64 n, .int .u64 m, .string a, .string b, .string c]
/-- what a block did, as a value -/
def execV (a b : ByteArray) (n : Nat) : Value := .agg #[.string a, .string b, .int .u64 n]
set_option maxRecDepth 100000 in
theorem header_of_trod {H : Type} {enc : TypeId × Value → H} {W : World} {fuel : Nat} {cs : List Value} {x : DataW H × List MemPlace} (h : DataW.trod enc Tryd.prog W 0 (fun _ => true) true fuel 24 cs = some x) :
    ∃ (n m : Nat) (a b c : ByteArray), cs = [.int .u64 n, .int .u64 m, .string a, .string b, .string c] ∧ n < 18446744073709551616 ∧ m < 18446744073709551616 ∧ a.size + b.size + c.size ≤ Rows.uptoBulk x.1 := by
  obtain ⟨xs, m, rfl, rfl, hl, hlen, hf⟩ := DataW.trod_struct Tryd.underlying24 h
  have hc5 : Tryd.prog.cellsOf 24 = 5 := by kernel_rfl
  rw [hc5] at hl
  match cs, hl, xs, hlen with
  | [c0, c1, c2, c3, c4], _, [y0, y1, y2, y3, y4], _ =>
    have h0 := hf 0 _ rfl
    have h1 := hf 1 _ rfl
    have h2 := hf 2 _ rfl
    have h3 := hf 3 _ rfl
    have h4 := hf 4 _ rfl
    obtain ⟨n0, e0, r0, f0⟩ := DataW.trod_int Tryd.underlying22 h0
    obtain ⟨n1, e1, r1, f1⟩ := DataW.trod_int Tryd.underlying22 h1
    obtain ⟨s2, e2, r2, -⟩ := DataW.trod_string Tryd.underlying9 h2
    obtain ⟨s3, e3, r3, -⟩ := DataW.trod_string Tryd.underlying9 h3
    obtain ⟨s4, e4, r4, -⟩ := DataW.trod_string Tryd.underlying9 h4
    cases e0; cases e1; cases e2; cases e3; cases e4
    obtain ⟨k0, rfl, g0⟩ := u64_natH f0
    obtain ⟨k1, rfl, g1⟩ := u64_natH f1
    refine ⟨k0, k1, s2, s3, s4, rfl, g0, g1, ?_⟩
    subst r0 r1 r2 r3 r4
    simp only [List.map_cons, List.map_nil, Rows.uptoBulk, Rows.uptoBulkAll]
    have l2 : s2.data.toList.length = s2.size := rfl
    have l3 : s3.data.toList.length = s3.size := rfl
    have l4 : s4.data.toList.length = s4.size := rfl
    omega
set_option maxRecDepth 100000 in
theorem open_header {H : Type} {enc : TypeId × Value → H} {W : World} {r : Reach} {b0 : Nat} {v : Value} {d : DataW H} {ps : List MemPlace} (hval : Value.okWide Tryd.prog W r b0 24 v) (hd : DataW.Trod enc Tryd.prog W 0 (fun _ => true) true 24 v d ps) :
    ∃ (n m : Nat) (a b c : ByteArray), v = headerV n m a b c ∧ n < 18446744073709551616 ∧ m < 18446744073709551616 ∧ a.size + b.size + c.size ≤ Rows.uptoBulk d := by
  obtain ⟨cs, rfl, _⟩ := okWide_struct Tryd.underlying24 hval
  obtain ⟨fuel, h⟩ := hd
  obtain ⟨n, m, a, b, c, hcs, h1, h2, h3⟩ := header_of_trod h
  refine ⟨n, m, a, b, c, ?_, h1, h2, h3⟩
  unfold headerV
  have : cs.toList = [.int .u64 n, .int .u64 m, .string a, .string b, .string c] := hcs
  rw [← this]
set_option maxRecDepth 100000 in
theorem exec_of_trod {H : Type} {enc : TypeId × Value → H} {W : World} {fuel : Nat} {cs : List Value} {x : DataW H × List MemPlace} (h : DataW.trod enc Tryd.prog W 0 (fun _ => true) true fuel 34 cs = some x) :
    ∃ (a b : ByteArray) (n : Nat), cs = [.string a, .string b, .int .u64 n] ∧ n < 18446744073709551616 ∧ a.size + b.size ≤ Rows.uptoBulk x.1 := by
  obtain ⟨xs, m, rfl, rfl, hl, hlen, hf⟩ := DataW.trod_struct Tryd.underlying34 h
  have hc3 : Tryd.prog.cellsOf 34 = 3 := by kernel_rfl
  rw [hc3] at hl
  match cs, hl, xs, hlen with
  | [c0, c1, c2], _, [y0, y1, y2], _ =>
    have h0 := hf 0 _ rfl
    have h1 := hf 1 _ rfl
    have h2 := hf 2 _ rfl
    obtain ⟨s0, e0, r0, -⟩ := DataW.trod_string Tryd.underlying9 h0
    obtain ⟨s1, e1, r1, -⟩ := DataW.trod_string Tryd.underlying9 h1
    obtain ⟨n2, e2, r2, f2⟩ := DataW.trod_int Tryd.underlying22 h2
    cases e0; cases e1; cases e2
    obtain ⟨k2, rfl, g2⟩ := u64_natH f2
    refine ⟨s0, s1, k2, rfl, g2, ?_⟩
    subst r0 r1 r2
    simp only [List.map_cons, List.map_nil, Rows.uptoBulk, Rows.uptoBulkAll]
    have l0 : s0.data.toList.length = s0.size := rfl
    have l1 : s1.data.toList.length = s1.size := rfl
    omega
set_option maxRecDepth 100000 in
theorem open_exec {H : Type} {enc : TypeId × Value → H} {W : World} {r : Reach} {b0 : Nat} {v : Value} {d : DataW H} {ps : List MemPlace} (hval : Value.okWide Tryd.prog W r b0 34 v) (hd : DataW.Trod enc Tryd.prog W 0 (fun _ => true) true 34 v d ps) :
    ∃ (a b : ByteArray) (n : Nat), v = execV a b n ∧ n < 18446744073709551616 ∧ a.size + b.size ≤ Rows.uptoBulk d := by
  obtain ⟨cs, rfl, _⟩ := okWide_struct Tryd.underlying34 hval
  obtain ⟨fuel, h⟩ := hd
  obtain ⟨a, b, n, hcs, h1, h2⟩ := exec_of_trod h
  refine ⟨a, b, n, ?_, h1, h2⟩
  unfold execV
  have : cs.toList = [.string a, .string b, .int .u64 n] := hcs
  rw [← this]
theorem bulkAll_appendH {H : Type} (l r : List (DataW H)) : Rows.uptoBulkAll (l ++ r) = Rows.uptoBulkAll l + Rows.uptoBulkAll r := by
  induction l with
  | nil => simp [Rows.uptoBulkAll]
  | cons x l ih => simp only [List.cons_append, Rows.uptoBulkAll, ih]; omega
/-- letters and texts together -/
def weightS : List ByteArray → Nat
  | [] => 0
  | x :: r => x.size + 1 + weightS r
theorem weightS_append (l r : List ByteArray) : weightS (l ++ r) = weightS l + weightS r := by
  induction l with
  | nil => simp [weightS]
  | cons x l ih => simp only [List.cons_append, weightS, ih]; omega
theorem weightS_mem {l : List ByteArray} {x : ByteArray} (h : x ∈ l) : x.size + l.length ≤ weightS l := by
  induction l with
  | nil => cases h
  | cons y l ih =>
    have hlen : ∀ r : List ByteArray, r.length ≤ weightS r := by
      intro r
      induction r with
      | nil => simp [weightS]
      | cons z r ih => simp only [List.length_cons, weightS]; omega
    rcases List.mem_cons.1 h with rfl | h
    · have := hlen l
      simp only [List.length_cons, weightS]; omega
    · have := ih h
      simp only [List.length_cons, weightS]; omega
theorem weightS_len (l : List ByteArray) : l.length ≤ weightS l := by
  induction l with
  | nil => simp [weightS]
  | cons z r ih => simp only [List.length_cons, weightS]; omega
set_option maxRecDepth 100000 in
theorem strs_of_trod {H : Type} {enc : TypeId × Value → H} {W : World} {fuel : Nat} {cs : List Value} {x : DataW H × List MemPlace} (h : DataW.trod enc Tryd.prog W 0 (fun _ => true) true fuel 30 cs = some x) :
    ∃ (v : Value) (l : List ByteArray), cs = [v] ∧ Strs W v l ∧ weightS l ≤ Rows.uptoBulk x.1 := by
  rcases DataW.trod_slice Tryd.underlying30 h with ⟨e2, rfl⟩ | ⟨a, len, cap, elems, rest, n', rfl, e2, rfl, _, hcap, _, hel, hat, _⟩
  · exact ⟨_, [], e2, ⟨none, 0, rfl, Nat.le_refl _, .inl rfl⟩, by simp [weightS]⟩
  · have hc1 : Tryd.prog.cellsOf 9 = 1 := by kernel_rfl
    have key : ∀ k, k ≤ len → ∃ l : List ByteArray, l.length = k ∧ weightS l ≤ Rows.uptoBulkAll ((elems.take k).map (·.1)) ∧ ∀ i (y : ByteArray), l[i]? = some y → W.cell? (a.add i) = some (.string y) := by
      intro k
      induction k with
      | zero => exact fun _ => ⟨[], rfl, by simp [weightS], fun i y h => by cases h⟩
      | succ k ihk =>
        intro hk
        obtain ⟨l, hl, hw, hl2⟩ := ihk (by omega)
        have hek : elems[k]? = some elems[k] := List.getElem?_eq_getElem (by omega)
        have h3 := hat k (by omega)
        rw [hek, hc1, Nat.mul_one] at h3
        cases hcs : W.cells? 0 (a.add k) 1 with
        | none => rw [hcs] at h3; cases h3
        | some cs' =>
          rw [hcs] at h3
          obtain ⟨s, hs, hr, -⟩ := DataW.trod_string Tryd.underlying9 h3
          obtain ⟨_, _, hcell⟩ := World.cells?_some hcs
          subst hs
          refine ⟨l ++ [s], by simp [hl], ?_, fun i z hz => ?_⟩
          · rw [weightS_append, List.take_add_one, hek]
            have hr' : elems[k].1 = .lit (.string s.data.toList) := by rw [hr]
            simp only [Option.toList_some, List.map_append, List.map_cons, List.map_nil, bulkAll_appendH, weightS, Rows.uptoBulkAll, hr', Rows.uptoBulk]
            have l2 : s.data.toList.length = s.size := rfl
            omega
          · by_cases hik : i < k
            · exact hl2 i z (by rwa [List.getElem?_append_left (by omega)] at hz)
            · rw [List.getElem?_append_right (by omega)] at hz
              have hi : i = k := by
                have := (List.getElem?_eq_some_iff.1 hz).1
                simp at this
                omega
              subst hi
              rw [hl, Nat.sub_self] at hz
              cases hz
              have c0 := hcell 0 (by omega)
              rw [Addr.add_add] at c0
              exact c0
    obtain ⟨l, hl, hw, hcell⟩ := key len (Nat.le_refl _)
    refine ⟨_, l, e2, ?_, ?_⟩
    · refine ⟨some a, cap, by rw [hl], by omega, ?_⟩
      cases l with
      | nil => exact .inl rfl
      | cons y r =>
        have c0 := hcell 0 y rfl
        have hsp := World.cell?_spot c0
        have hlt := World.block_lt_of_cell? W _ c0
        have e0 : a.add 0 = a := by unfold Addr.add; simp
        rw [e0] at hsp hlt
        obtain ⟨g, o, sp⟩ := a
        cases hsp
        have ea : ∀ j, (⟨g, o, none⟩ : Addr).add j = ⟨g, o + j, none⟩ := fun j => by unfold Addr.add; split <;> simp_all
        refine .inr ⟨g, o, rfl, hlt, fun j x hx => ?_⟩
        rw [← ea]
        exact hcell j x hx
    · rw [List.take_of_length_le (by omega)] at hw
      simp only [Rows.uptoBulk] at hw ⊢
      omega
set_option maxRecDepth 100000 in
theorem open_strs {H : Type} {enc : TypeId × Value → H} {W : World} {r : Reach} {b0 : Nat} {v : Value} {d : DataW H} {ps : List MemPlace} (hval : Value.okWide Tryd.prog W r b0 30 v) (hd : DataW.Trod enc Tryd.prog W 0 (fun _ => true) true 30 v d ps) :
    ∃ l : List ByteArray, Strs W v l ∧ weightS l ≤ Rows.uptoBulk d := by
  obtain ⟨fuel, hf⟩ := hd
  obtain ⟨u, l, hcs, hs, hw⟩ := strs_of_trod hf
  obtain ⟨p, n, c, rfl⟩ := okWide_slice Tryd.underlying30 hval
  obtain rfl : Value.slice p n c = u := by simpa [Value.cells] using hcs
  exact ⟨l, hs, hw⟩
end Go.Proofs.YtfbopnebfdkhdaaDoor
