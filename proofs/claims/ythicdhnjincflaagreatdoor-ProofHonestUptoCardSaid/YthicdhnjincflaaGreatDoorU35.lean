/- What the walks take: OpnP. -/
import Derived.Test.YthicdhnjincflaaGreatDoorU0
import Derived.Test.YthicdhnjincflaaGreatDoorU20
import Derived.Test.YthicdhnjincflaaGreatDoorU34
namespace Go.Proofs.YthicdhnjincflaaGreatDoor
open Go.RowKit Go.ChangeShapes Go.WideShapes
def weightP : List PairD → Nat
  | [] => 0
  | q :: r => 1 + q.1.length + q.2.length + weightP r
theorem weightP_append (l r : List PairD) : weightP (l ++ r) = weightP l + weightP r := by
  induction l with
  | nil => simp [weightP]
  | cons x l ih => simp only [List.cons_append, weightP, ih]; omega
theorem weightP_len (l : List PairD) : l.length ≤ weightP l := by
  induction l with
  | nil => simp [weightP]
  | cons z r ih => simp only [List.length_cons, weightP]; omega
theorem bytes_of (s : ByteArray) : s = ⟨s.data.toList.toArray⟩ := by
  apply ByteArray.ext
  show s.data = s.data.toList.toArray
  simp
set_option maxRecDepth 100000 in
theorem pair_of_trod {H : Type} {enc : TypeId × Value → H} {W : World} {fuel : Nat} {cs : List Value} {x : DataW H × List MemPlace} (h : DataW.trod enc Tryz.prog W 0 (fun _ => true) true fuel 40 cs = some x) :
    ∃ q : PairD, cs = [.string ⟨q.1.toArray⟩, .string ⟨q.2.toArray⟩] ∧ 1 + q.1.length + q.2.length ≤ Rows.uptoBulk x.1 := by
  obtain ⟨xs, m, rfl, rfl, hl, hlen, hf⟩ := DataW.trod_struct Tryz.underlying40 h
  have hc3 : Tryz.prog.cellsOf 40 = 2 := by kernel_rfl
  rw [hc3] at hl
  match cs, hl, xs, hlen with
  | [c0, c1], _, [y0, y1], _ =>
    have h0 := hf 0 _ rfl
    have h1 := hf 1 _ rfl
    simp only [List.getElem?_cons_zero, List.getElem?_cons_succ] at h0 h1
    obtain ⟨s0, e0, r0, -⟩ := DataW.trod_string Tryz.underlying9 h0
    obtain ⟨s1, e1, r1, -⟩ := DataW.trod_string Tryz.underlying9 h1
    cases e0; cases e1
    refine ⟨(s0.data.toList, s1.data.toList), ?_, ?_⟩
    · show [Value.string s0, Value.string s1] = [Value.string ⟨s0.data.toList.toArray⟩, Value.string ⟨s1.data.toList.toArray⟩]
      rw [← bytes_of s0, ← bytes_of s1]
    · have hr0 : y0.1 = .lit (.string s0.data.toList) := by rw [r0]
      have hr1 : y1.1 = .lit (.string s1.data.toList) := by rw [r1]
      simp only [List.map_cons, List.map_nil, Rows.uptoBulk, Rows.uptoBulkAll, hr0, hr1]
      omega
set_option maxRecDepth 100000 in
theorem pairs_of_trod {H : Type} {enc : TypeId × Value → H} {W : World} {fuel : Nat} {cs : List Value} {x : DataW H × List MemPlace} (h : DataW.trod enc Tryz.prog W 0 (fun _ => true) true fuel 22 cs = some x) :
    ∃ (v : Value) (l : List PairD), cs = [v] ∧ Pairs W v l ∧ weightP l ≤ Rows.uptoBulk x.1 := by
  rcases DataW.trod_slice Tryz.underlying22 h with ⟨e2, rfl⟩ | ⟨a, len, cap, elems, rest, n', rfl, e2, rfl, _, hcap, _, hel, hat, _⟩
  · exact ⟨_, [], e2, Pairs.nil W, by simp [weightP]⟩
  · have hc3 : Tryz.prog.cellsOf 40 = 2 := by kernel_rfl
    have key : ∀ k, k ≤ len → ∃ l : List PairD, l.length = k ∧ weightP l ≤ Rows.uptoBulkAll ((elems.take k).map (·.1)) ∧ ∀ i (y : PairD), l[i]? = some y →
        W.cell? (a.add (i * 2)) = some (.string ⟨y.1.toArray⟩) ∧ W.cell? (a.add (i * 2 + 1)) = some (.string ⟨y.2.toArray⟩) := by
      intro k
      induction k with
      | zero => exact fun _ => ⟨[], rfl, by simp [weightP], fun i y h => by cases h⟩
      | succ k ihk =>
        intro hk
        obtain ⟨l, hl, hw, hl2⟩ := ihk (by omega)
        have hek : elems[k]? = some elems[k] := List.getElem?_eq_getElem (by omega)
        have h3 := hat k (by omega)
        rw [hek, hc3] at h3
        cases hcs : W.cells? 0 (a.add (k * 2)) 2 with
        | none => rw [hcs] at h3; cases h3
        | some cs' =>
          rw [hcs] at h3
          obtain ⟨y, hy, hyw⟩ := pair_of_trod h3
          obtain ⟨_, _, hcell⟩ := World.cells?_some hcs
          subst hy
          refine ⟨l ++ [y], by simp [hl], ?_, fun i z hz => ?_⟩
          · rw [weightP_append, List.take_add_one, hek]
            simp only [Option.toList_some, List.map_append, List.map_cons, List.map_nil, bulkAll_appendH, weightP, Rows.uptoBulkAll]
            omega
          · by_cases hik : i < k
            · exact hl2 i z (by rwa [List.getElem?_append_left (by omega)] at hz)
            · rw [List.getElem?_append_right (by omega)] at hz
              have hi : i = k := by
                have := (List.getElem?_eq_some_iff.1 hz).1
                simp at this
                omega
              subst hi
              rw [hl, Nat.sub_self] at hz
              cases hz
              have c0 := hcell 0 (by omega)
              have c1 := hcell 1 (by omega)
              rw [Addr.add_add] at c0 c1
              exact ⟨c0, c1⟩
    obtain ⟨l, hl, hw, hcell⟩ := key len (Nat.le_refl _)
    refine ⟨_, l, e2, ?_, ?_⟩
    · refine ⟨some a, cap, by rw [hl], by omega, ?_⟩
      cases l with
      | nil => exact .inl rfl
      | cons y r =>
        obtain ⟨c0, _⟩ := hcell 0 y rfl
        rw [Nat.zero_mul] at c0
        have hsp := World.cell?_spot c0
        have hlt := World.block_lt_of_cell? W _ c0
        have e0 : a.add 0 = a := by unfold Addr.add; simp
        rw [e0] at hsp hlt
        obtain ⟨g, o, sp⟩ := a
        cases hsp
        have ea : ∀ j, (⟨g, o, none⟩ : Addr).add j = ⟨g, o + j, none⟩ := fun j => by unfold Addr.add; split <;> simp_all
        refine .inr ⟨g, o, rfl, hlt, fun j x hx => ?_⟩
        obtain ⟨q0, q1⟩ := hcell j x hx
        rw [ea] at q0 q1
        exact ⟨q0, by rw [Nat.add_assoc]; exact q1⟩
    · rw [List.take_of_length_le (by omega)] at hw
      simp only [Rows.uptoBulk] at hw ⊢
      omega
set_option maxRecDepth 100000 in
theorem open_pairs {H : Type} {enc : TypeId × Value → H} {W : World} {r : Reach} {b0 : Nat} {v : Value} {d : DataW H} {ps : List MemPlace} (hval : Value.okWide Tryz.prog W r b0 22 v) (hd : DataW.Trod enc Tryz.prog W 0 (fun _ => true) true 22 v d ps) :
    ∃ l : List PairD, Pairs W v l ∧ weightP l ≤ Rows.uptoBulk d := by
  obtain ⟨fuel, hf⟩ := hd
  obtain ⟨u, l, hcs, hs, hw⟩ := pairs_of_trod hf
  obtain ⟨p, n, c, rfl⟩ := okWide_slice Tryz.underlying22 hval
  obtain rfl : Value.slice p n c = u := by simpa [Value.cells] using hcs
  exact ⟨l, hs, hw⟩
end Go.Proofs.YthicdhnjincflaaGreatDoor
