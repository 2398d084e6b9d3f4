/- An argument that is a row of texts: what it reads as. -/
import Derived.Test.YthicdhnjincflaaDoorTxtS
import Derived.Test.YthicdhnjincflaaDoorRows
import Derived.Deep.Slices
import Derived.ChangeArms
import Derived.DataReads
import Derived.OpenShut
namespace Go.Proofs.YthicdhnjincflaaDoor
open Go.RowKit Go.ChangeShapes Go.WideShapes

theorem bulkAll_appendH {H : Type} (l r : List (DataW H)) : Rows.uptoBulkAll (l ++ r) = Rows.uptoBulkAll l + Rows.uptoBulkAll r := by
  induction l with
  | nil => simp [Rows.uptoBulkAll]
  | cons x l ih => simp only [List.cons_append, Rows.uptoBulkAll, ih]; omega
/-- letters and texts together -/
def weightS : List ByteArray → Nat
  | [] => 0
  | x :: r => x.size + 1 + weightS r
theorem weightS_append (l r : List ByteArray) : weightS (l ++ r) = weightS l + weightS r := by
  induction l with
  | nil => simp [weightS]
  | cons x l ih => simp only [List.cons_append, weightS, ih]; omega
theorem weightS_mem {l : List ByteArray} {x : ByteArray} (h : x ∈ l) : x.size + l.length ≤ weightS l := by
  induction l with
  | nil => cases h
  | cons y l ih =>
    have hlen : ∀ r : List ByteArray, r.length ≤ weightS r := by
      intro r
      induction r with
      | nil => simp [weightS]
      | cons z r ih => simp only [List.length_cons, weightS]; omega
    rcases List.mem_cons.1 h with rfl | h
    · have := hlen l
      simp only [List.length_cons, weightS]; omega
    · have := ih h
      simp only [List.length_cons, weightS]; omega
theorem weightS_len (l : List ByteArray) : l.length ≤ weightS l := by
  induction l with
  | nil => simp [weightS]
  | cons z r ih => simp only [List.length_cons, weightS]; omega
set_option maxRecDepth 100000 in
theorem strs_of_trod {H : Type} {enc : TypeId × Value → H} {W : World} {fuel : Nat} {cs : List Value} {x : DataW H × List MemPlace} (h : DataW.trod enc Tryd.prog W 0 (fun _ => true) true fuel 23 cs = some x) :
    ∃ (v : Value) (l : List ByteArray), cs = [v] ∧ Strs W v l ∧ weightS l ≤ Rows.uptoBulk x.1 := by
  rcases DataW.trod_slice Tryd.underlying23 h with ⟨e2, rfl⟩ | ⟨a, len, cap, elems, rest, n', rfl, e2, rfl, _, hcap, _, hel, hat, _⟩
  · exact ⟨_, [], e2, ⟨none, 0, rfl, Nat.le_refl _, .inl rfl⟩, by simp [weightS]⟩
  · have hc1 : Tryd.prog.cellsOf 9 = 1 := by kernel_rfl
    have key : ∀ k, k ≤ len → ∃ l : List ByteArray, l.length = k ∧ weightS l ≤ Rows.uptoBulkAll ((elems.take k).map (·.1)) ∧ ∀ i (y : ByteArray), l[i]? = some y → W.cell? (a.add i) = some (.string y) := by
      intro k
      induction k with
      | zero => exact fun _ => ⟨[], rfl, by simp [weightS], fun i y h => by cases h⟩
      | succ k ihk =>
        intro hk
        obtain ⟨l, hl, hw, hl2⟩ := ihk (by omega)
        have hek : elems[k]? = some elems[k] := List.getElem?_eq_getElem (by omega)
        have h3 := hat k (by omega)
        rw [hek, hc1, Nat.mul_one] at h3
        cases hcs : W.cells? 0 (a.add k) 1 with
        | none => rw [hcs] at h3; cases h3
        | some cs' =>
          rw [hcs] at h3
          obtain ⟨s, hs, hr, -⟩ := DataW.trod_string Tryd.underlying9 h3
          obtain ⟨_, _, hcell⟩ := World.cells?_some hcs
          subst hs
          refine ⟨l ++ [s], by simp [hl], ?_, fun i z hz => ?_⟩
          · rw [weightS_append, List.take_add_one, hek]
            have hr' : elems[k].1 = .lit (.string s.data.toList) := by rw [hr]
            simp only [Option.toList_some, List.map_append, List.map_cons, List.map_nil, bulkAll_appendH, weightS, Rows.uptoBulkAll, hr', Rows.uptoBulk]
            have l2 : s.data.toList.length = s.size := rfl
            omega
          · by_cases hik : i < k
            · exact hl2 i z (by rwa [List.getElem?_append_left (by omega)] at hz)
            · rw [List.getElem?_append_right (by omega)] at hz
              have hi : i = k := by
                have := (List.getElem?_eq_some_iff.1 hz).1
                simp at this
                omega
              subst hi
              rw [hl, Nat.sub_self] at hz
              cases hz
              have c0 := hcell 0 (by omega)
              rw [Addr.add_add] at c0
              exact c0
    obtain ⟨l, hl, hw, hcell⟩ := key len (Nat.le_refl _)
    refine ⟨_, l, e2, ?_, ?_⟩
    · refine ⟨some a, cap, by rw [hl], by omega, ?_⟩
      cases l with
      | nil => exact .inl rfl
      | cons y r =>
        have c0 := hcell 0 y rfl
        have hsp := World.cell?_spot c0
        have hlt := World.block_lt_of_cell? W _ c0
        have e0 : a.add 0 = a := by unfold Addr.add; simp
        rw [e0] at hsp hlt
        obtain ⟨g, o, sp⟩ := a
        cases hsp
        have ea : ∀ j, (⟨g, o, none⟩ : Addr).add j = ⟨g, o + j, none⟩ := fun j => by unfold Addr.add; split <;> simp_all
        refine .inr ⟨g, o, rfl, hlt, fun j x hx => ?_⟩
        rw [← ea]
        exact hcell j x hx
    · rw [List.take_of_length_le (by omega)] at hw
      simp only [Rows.uptoBulk] at hw ⊢
      omega
set_option maxRecDepth 100000 in
theorem open_strs {H : Type} {enc : TypeId × Value → H} {W : World} {r : Reach} {b0 : Nat} {v : Value} {d : DataW H} {ps : List MemPlace} (hval : Value.okWide Tryd.prog W r b0 23 v) (hd : DataW.Trod enc Tryd.prog W 0 (fun _ => true) true 23 v d ps) :
    ∃ l : List ByteArray, Strs W v l ∧ weightS l ≤ Rows.uptoBulk d := by
  obtain ⟨fuel, hf⟩ := hd
  obtain ⟨u, l, hcs, hs, hw⟩ := strs_of_trod hf
  obtain ⟨p, n, c, rfl⟩ := okWide_slice Tryd.underlying23 hval
  obtain rfl : Value.slice p n c = u := by simpa [Value.cells] using hcs
  exact ⟨l, hs, hw⟩
end Go.Proofs.YthicdhnjincflaaDoor
