/- An argument that is a receipt: what it reads as, and how much there is of it. -/
import Derived.Test.YtmjblnhnadffmaaDoorWrdO
import Derived.Test.YtmjblnhnadffmaaDoorLogM
namespace Go.Proofs.YtmjblnhnadffmaaDoor
open Go.RowKit Go.ChangeShapes Go.WideShapes

theorem bulkAll_appendO {H : Type} (l r : List (DataW H)) : Rows.uptoBulkAll (l ++ r) = Rows.uptoBulkAll l + Rows.uptoBulkAll r := by
  induction l with
  | nil => simp [Rows.uptoBulkAll]
  | cons x l ih => simp only [List.cons_append, Rows.uptoBulkAll, ih]; omega
theorem weightT_append (l r : List ByteArray) : weightL.weightT (l ++ r) = weightL.weightT l + weightL.weightT r := by
  induction l with
  | nil => simp [weightL.weightT]
  | cons x l ih => simp only [List.cons_append, weightL.weightT, ih]; omega
theorem weightL_appendO (l r : List LogD) : weightL (l ++ r) = weightL l + weightL r := by
  induction l with
  | nil => simp [weightL]
  | cons x l ih => simp only [List.cons_append, weightL, ih]; omega
set_option maxRecDepth 100000 in
theorem strs_of_trodO {H : Type} {enc : TypeId × Value → H} {W : World} {fuel : Nat} {cs : List Value} {x : DataW H × List MemPlace} (h : DataW.trod enc Tryd.prog W 0 (fun _ => true) true fuel 62 cs = some x) :
    ∃ (v : Value) (l : List ByteArray), cs = [v] ∧ Strs W v l ∧ weightL.weightT l ≤ Rows.uptoBulk x.1 := by
  rcases DataW.trod_slice Tryd.underlying62 h with ⟨e2, rfl⟩ | ⟨a, len, cap, elems, rest, n', rfl, e2, rfl, _, hcap, _, hel, hat, _⟩
  · exact ⟨_, [], e2, ⟨none, 0, rfl, Nat.le_refl _, .inl rfl⟩, by simp [weightL.weightT]⟩
  · have hc1 : Tryd.prog.cellsOf 9 = 1 := by kernel_rfl
    have key : ∀ k, k ≤ len → ∃ l : List ByteArray, l.length = k ∧ weightL.weightT l ≤ Rows.uptoBulkAll ((elems.take k).map (·.1)) ∧ ∀ i (y : ByteArray), l[i]? = some y → W.cell? (a.add i) = some (.string y) := by
      intro k
      induction k with
      | zero => exact fun _ => ⟨[], rfl, by simp [weightL.weightT], fun i y h => by cases h⟩
      | succ k ihk =>
        intro hk
        obtain ⟨l, hl, hw, hl2⟩ := ihk (by omega)
        have hek : elems[k]? = some elems[k] := List.getElem?_eq_getElem (by omega)
        have h3 := hat k (by omega)
        rw [hek, hc1, Nat.mul_one] at h3
        cases hcs : W.cells? 0 (a.add k) 1 with
        | none => rw [hcs] at h3; cases h3
        | some cs' =>
          rw [hcs] at h3
          obtain ⟨s, hs, hr, -⟩ := DataW.trod_string Tryd.underlying9 h3
          obtain ⟨_, _, hcell⟩ := World.cells?_some hcs
          subst hs
          refine ⟨l ++ [s], by simp [hl], ?_, fun i z hz => ?_⟩
          · rw [weightT_append, List.take_add_one, hek]
            have hr' : elems[k].1 = .lit (.string s.data.toList) := by rw [hr]
            simp only [Option.toList_some, List.map_append, List.map_cons, List.map_nil, bulkAll_appendO, weightL.weightT, Rows.uptoBulkAll, hr', Rows.uptoBulk]
            have l2 : s.data.toList.length = s.size := rfl
            omega
          · by_cases hik : i < k
            · exact hl2 i z (by rwa [List.getElem?_append_left (by omega)] at hz)
            · rw [List.getElem?_append_right (by omega)] at hz
              have hi : i = k := by
                have := (List.getElem?_eq_some_iff.1 hz).1
                simp at this
                omega
              subst hi
              rw [hl, Nat.sub_self] at hz
              cases hz
              have c0 := hcell 0 (by omega)
              rw [Addr.add_add] at c0
              exact c0
    obtain ⟨l, hl, hw, hcell⟩ := key len (Nat.le_refl _)
    refine ⟨_, l, e2, ?_, ?_⟩
    · refine ⟨some a, cap, by rw [hl], by omega, ?_⟩
      cases l with
      | nil => exact .inl rfl
      | cons y r =>
        have c0 := hcell 0 y rfl
        have hsp := World.cell?_spot c0
        have hlt := World.block_lt_of_cell? W _ c0
        have e0 : a.add 0 = a := by unfold Addr.add; simp
        rw [e0] at hsp hlt
        obtain ⟨g, o, sp⟩ := a
        cases hsp
        have ea : ∀ j, (⟨g, o, none⟩ : Addr).add j = ⟨g, o + j, none⟩ := fun j => by unfold Addr.add; split <;> simp_all
        refine .inr ⟨g, o, rfl, hlt, fun j x hx => ?_⟩
        rw [← ea]
        exact hcell j x hx
    · rw [List.take_of_length_le (by omega)] at hw
      simp only [Rows.uptoBulk] at hw ⊢
      omega
set_option maxRecDepth 100000 in
theorem log_of_trod {H : Type} {enc : TypeId × Value → H} {W : World} {fuel : Nat} {cs : List Value} {x : DataW H × List MemPlace} (h : DataW.trod enc Tryd.prog W 0 (fun _ => true) true fuel 64 cs = some x) :
    ∃ (y : LogD) (u : Value), cs = [.string y.addr, u, .string y.data] ∧ Strs W u y.tops ∧ 1 + y.addr.size + weightL.weightT y.tops + y.data.size ≤ Rows.uptoBulk x.1 := by
  obtain ⟨xs, m, rfl, rfl, hl, hlen, hf⟩ := DataW.trod_struct Tryd.underlying64 h
  have hc3 : Tryd.prog.cellsOf 64 = 3 := by kernel_rfl
  rw [hc3] at hl
  match cs, hl, xs, hlen with
  | [c0, c1, c2], _, [y0, y1, y2], _ =>
    have h0 := hf 0 _ rfl
    have h1 := hf 1 _ rfl
    have h2 := hf 2 _ rfl
    simp only [List.getElem?_cons_zero, List.getElem?_cons_succ] at h0 h1 h2
    obtain ⟨s0, e0, r0, -⟩ := DataW.trod_string Tryd.underlying9 h0
    obtain ⟨u, l, e1, hs, hw⟩ := strs_of_trodO h1
    obtain ⟨s2, e2, r2, -⟩ := DataW.trod_string Tryd.underlying9 h2
    cases e0; cases e1; cases e2
    refine ⟨⟨s0, l, s2⟩, _, rfl, hs, ?_⟩
    have hr0 : y0.1 = .lit (.string s0.data.toList) := by rw [r0]
    have hr2 : y2.1 = .lit (.string s2.data.toList) := by rw [r2]
    have l0 : s0.data.toList.length = s0.size := rfl
    have l2 : s2.data.toList.length = s2.size := rfl
    simp only [List.map_cons, List.map_nil, Rows.uptoBulk, Rows.uptoBulkAll, hr0, hr2]
    omega
set_option maxRecDepth 100000 in
theorem logs_of_trod {H : Type} {enc : TypeId × Value → H} {W : World} {fuel : Nat} {cs : List Value} {x : DataW H × List MemPlace} (h : DataW.trod enc Tryd.prog W 0 (fun _ => true) true fuel 36 cs = some x) :
    ∃ (v : Value) (l : List LogD), cs = [v] ∧ Logs W v l ∧ weightL l ≤ Rows.uptoBulk x.1 := by
  rcases DataW.trod_slice Tryd.underlying36 h with ⟨e2, rfl⟩ | ⟨a, len, cap, elems, rest, n', rfl, e2, rfl, _, hcap, _, hel, hat, _⟩
  · exact ⟨_, [], e2, Logs.nil W, by simp [weightL]⟩
  · have hc3 : Tryd.prog.cellsOf 64 = 3 := by kernel_rfl
    have key : ∀ k, k ≤ len → ∃ l : List LogD, l.length = k ∧ weightL l ≤ Rows.uptoBulkAll ((elems.take k).map (·.1)) ∧ ∀ i (y : LogD), l[i]? = some y →
        ∃ u, W.cell? (a.add (i * 3)) = some (.string y.addr) ∧ W.cell? (a.add (i * 3 + 1)) = some u ∧ W.cell? (a.add (i * 3 + 2)) = some (.string y.data) ∧ Strs W u y.tops := by
      intro k
      induction k with
      | zero => exact fun _ => ⟨[], rfl, by simp [weightL], fun i y h => by cases h⟩
      | succ k ihk =>
        intro hk
        obtain ⟨l, hl, hw, hl2⟩ := ihk (by omega)
        have hek : elems[k]? = some elems[k] := List.getElem?_eq_getElem (by omega)
        have h3 := hat k (by omega)
        rw [hek, hc3] at h3
        cases hcs : W.cells? 0 (a.add (k * 3)) 3 with
        | none => rw [hcs] at h3; cases h3
        | some cs' =>
          rw [hcs] at h3
          obtain ⟨y, u, hy, hst, hyw⟩ := log_of_trod h3
          obtain ⟨_, _, hcell⟩ := World.cells?_some hcs
          subst hy
          refine ⟨l ++ [y], by simp [hl], ?_, fun i z hz => ?_⟩
          · rw [weightL_appendO, List.take_add_one, hek]
            simp only [Option.toList_some, List.map_append, List.map_cons, List.map_nil, bulkAll_appendO, weightL, Rows.uptoBulkAll]
            omega
          · by_cases hik : i < k
            · exact hl2 i z (by rwa [List.getElem?_append_left (by omega)] at hz)
            · rw [List.getElem?_append_right (by omega)] at hz
              have hi : i = k := by
                have := (List.getElem?_eq_some_iff.1 hz).1
                simp at this
                omega
              subst hi
              rw [hl, Nat.sub_self] at hz
              cases hz
              have c0 := hcell 0 (by omega)
              have c1 := hcell 1 (by omega)
              have c2 := hcell 2 (by omega)
              rw [Addr.add_add] at c0 c1 c2
              exact ⟨u, c0, c1, c2, hst⟩
    obtain ⟨l, hl, hw, hcell⟩ := key len (Nat.le_refl _)
    refine ⟨_, l, e2, ?_, ?_⟩
    · refine ⟨some a, cap, by rw [hl], by omega, ?_⟩
      cases l with
      | nil => exact .inl rfl
      | cons y r =>
        obtain ⟨_, c0, _⟩ := hcell 0 y rfl
        rw [Nat.zero_mul] at c0
        have hsp := World.cell?_spot c0
        have hlt := World.block_lt_of_cell? W _ c0
        have e0 : a.add 0 = a := by unfold Addr.add; simp
        rw [e0] at hsp hlt
        obtain ⟨g, o, sp⟩ := a
        cases hsp
        have ea : ∀ j, (⟨g, o, none⟩ : Addr).add j = ⟨g, o + j, none⟩ := fun j => by unfold Addr.add; split <;> simp_all
        refine .inr ⟨g, o, rfl, hlt, fun j x hx => ?_⟩
        obtain ⟨u, q0, q1, q2, q3⟩ := hcell j x hx
        rw [ea] at q0 q1 q2
        exact ⟨u, q0, q1, q2, q3⟩
    · rw [List.take_of_length_le (by omega)] at hw
      simp only [Rows.uptoBulk] at hw ⊢
      omega
set_option maxRecDepth 100000 in
theorem open_rcpt {H : Type} {enc : TypeId × Value → H} {W : World} {r : Reach} {b0 : Nat} {v : Value} {d : DataW H} {ps : List MemPlace} (hval : Value.okWide Tryd.prog W r b0 38 v) (hd : DataW.Trod enc Tryd.prog W 0 (fun _ => true) true 38 v d ps) :
    ∃ (g : Bool) (n : Nat) (ls : List LogD) (u : Value), v = .agg #[.bool g, .int .u64 n, u] ∧ n < 18446744073709551616 ∧ Logs W u ls ∧ weightL ls ≤ Rows.uptoBulk d := by
  obtain ⟨cs, rfl, _⟩ := okWide_struct Tryd.underlying38 hval
  obtain ⟨fuel, h⟩ := hd
  obtain ⟨xs, m, rfl, hx, hl, hlen, hf⟩ := DataW.trod_struct Tryd.underlying38 h
  have hc3 : Tryd.prog.cellsOf 38 = 3 := by kernel_rfl
  obtain ⟨cs⟩ := cs
  simp only [Value.cells] at hl hf
  rw [hc3] at hl
  match cs, hl, xs, hlen with
  | [c0, c1, c2], _, [y0, y1, y2], _ =>
    have h0 := hf 0 _ rfl
    have h1 := hf 1 _ rfl
    have h2 := hf 2 _ rfl
    obtain ⟨g, e0, r0⟩ := DataW.trod_bool Tryd.underlying4 h0
    obtain ⟨n0, e1, r1, f1⟩ := DataW.trod_int Tryd.underlying22 h1
    obtain ⟨u, ls, e2, hs, hw⟩ := logs_of_trod h2
    cases e0; cases e1; cases e2
    obtain ⟨k0, rfl, g0⟩ := u64_natO f1
    refine ⟨g, k0, ls, _, rfl, g0, hs, ?_⟩
    simp only [List.getElem?_cons_zero, List.getElem?_cons_succ] at *
    obtain ⟨rfl, rfl⟩ := hx
    simp only [List.map_cons, List.map_nil, Rows.uptoBulk, Rows.uptoBulkAll]
    omega
end Go.Proofs.YtmjblnhnadffmaaDoor
