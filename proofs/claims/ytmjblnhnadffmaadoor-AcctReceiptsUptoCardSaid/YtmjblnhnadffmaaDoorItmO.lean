/- An argument that is an item: what it reads as, and how much there is of it. -/
import Derived.Test.YtmjblnhnadffmaaDoorPlain
import Derived.Test.YtmjblnhnadffmaaDoorItemM
import Derived.Test.YtmjblnhnadffmaaDoorRows
import Derived.Deep.Slices
import Derived.ChangeArms
import Derived.DataReads
namespace Go.Proofs.YtmjblnhnadffmaaDoor
open Go.RowKit Go.ChangeShapes Go.WideShapes

mutual
/-- how many letters and items -/
def Item.weight : Item → Nat
  | .mk _ t l => weightAll l + t.length + 1
def weightAll : List Item → Nat
  | [] => 0
  | x :: r => x.weight + weightAll r
end
mutual
theorem size_weight : ∀ (x : Item), x.size ≤ x.weight
  | .mk _ _ l => by simp only [Item.size, Item.weight]; have := size_weightAll l; omega
theorem size_weightAll : ∀ (l : List Item), sizeAll l ≤ weightAll l
  | [] => by simp [sizeAll, weightAll]
  | x :: r => by simp only [sizeAll, weightAll]; have := size_weight x; have := size_weightAll r; omega
end
theorem framed_len (s : List UInt8) (b : Nat) : (framed s b).length ≤ s.length + 9 := by
  unfold framed
  have := num_length s.length
  split <;> simp <;> omega
mutual
theorem put_weight : ∀ (x : Item), (put x).length ≤ 10 * x.weight
  | .mk b t l => by
    have h := put_weightAll l
    simp only [put, Item.weight]
    split
    · have := framed_len (putAll l) 192; omega
    · unfold putText
      split
      · omega
      · have := framed_len t 128; omega
theorem put_weightAll : ∀ (l : List Item), (putAll l).length ≤ 10 * weightAll l
  | [] => by simp [putAll, weightAll]
  | x :: r => by simp only [putAll, weightAll, List.length_append]; have := put_weight x; have := put_weightAll r; omega
end
theorem weightAll_append (l r : List Item) : weightAll (l ++ r) = weightAll l + weightAll r := by
  induction l with
  | nil => simp [weightAll]
  | cons x l ih => simp only [List.cons_append, weightAll, ih]; omega
theorem bulkAll_append {H : Type} (l r : List (DataW H)) : Rows.uptoBulkAll (l ++ r) = Rows.uptoBulkAll l + Rows.uptoBulkAll r := by
  induction l with
  | nil => simp [Rows.uptoBulkAll]
  | cons x l ih => simp only [List.cons_append, Rows.uptoBulkAll, ih]; omega

set_option maxRecDepth 100000 in
theorem item_of_trod {H : Type} {enc : TypeId × Value → H} {W : World} (fuel : Nat) : ∀ (cs : List Value) (x : DataW H × List MemPlace), DataW.trod enc Tryd.prog W 0 (fun _ => true) true fuel 51 cs = some x →
    ∃ (y : Item) (v : Value), cs = [.bool y.isList, .string ⟨y.text.toArray⟩, v] ∧ Reads W W.heap.size v y.list ∧ y.weight ≤ Rows.uptoBulk x.1 := by
  induction fuel using Nat.strongRecOn with
  | ind fuel ih =>
    intro cs x h
    obtain ⟨xs, n, rfl, rfl, hl, hlen, hf⟩ := DataW.trod_struct Tryd.underlying51 h
    have hc3 : Tryd.prog.cellsOf 51 = 3 := by kernel_rfl
    rw [hc3] at hl
    match cs, hl, xs, hlen with
    | [c0, c1, c2], _, [y0, y1, y2], _ =>
      have h0 := hf 0 _ rfl
      have h1 := hf 1 _ rfl
      have h2 := hf 2 _ rfl
      simp only [List.getElem?_cons_zero, List.getElem?_cons_succ] at h0 h1 h2
      obtain ⟨b, e0, rfl⟩ := DataW.trod_bool Tryd.underlying4 h0
      obtain ⟨s, e1, rfl, _⟩ := DataW.trod_string Tryd.underlying9 h1
      cases e0
      cases e1
      rcases DataW.trod_slice Tryd.underlying49 h2 with ⟨e2, rfl⟩ | ⟨a, len, cap, elems, rest, n', rfl, e2, rfl, _, hlcap, _, hel, hat, _⟩
      · cases e2
        refine ⟨Item.mk b s.data.toList [], _, rfl, Reads.nil _ _, ?_⟩
        simp only [Item.weight, weightAll, List.map_cons, List.map_nil, Rows.uptoBulk, Rows.uptoBulkAll]
        omega
      · cases e2
        have key : ∀ k, k ≤ len → ∃ l : List Item, l.length = k ∧ weightAll l ≤ Rows.uptoBulkAll ((elems.take k).map (·.1)) ∧ ∀ i (y : Item), l[i]? = some y →
            W.cell? (a.add (i * 3)) = some (.bool y.isList) ∧ W.cell? (a.add (i * 3 + 1)) = some (.string ⟨y.text.toArray⟩) ∧ ∃ v, W.cell? (a.add (i * 3 + 2)) = some v ∧ Reads W W.heap.size v y.list := by
          intro k
          induction k with
          | zero => exact fun _ => ⟨[], rfl, by simp [weightAll], fun i y h => by cases h⟩
          | succ k ihk =>
            intro hk
            obtain ⟨l, hl, hw, hl2⟩ := ihk (by omega)
            have hek : elems[k]? = some elems[k] := List.getElem?_eq_getElem (by omega)
            have h3 := hat k (by omega)
            rw [hek, hc3] at h3
            cases hcs : W.cells? 0 (a.add (k * 3)) 3 with
            | none => rw [hcs] at h3; cases h3
            | some cs' =>
              rw [hcs] at h3
              obtain ⟨y, v, hy, hrd, hyw⟩ := ih n' (by omega) cs' _ h3
              obtain ⟨_, _, hcell⟩ := World.cells?_some hcs
              subst hy
              refine ⟨l ++ [y], by simp [hl], ?_, fun i z hz => ?_⟩
              · rw [weightAll_append, List.take_add_one, hek]
                simp only [Option.toList_some, List.map_append, List.map_cons, List.map_nil, bulkAll_append, weightAll, Rows.uptoBulkAll]
                omega
              · by_cases hik : i < k
                · exact hl2 i z (by rwa [List.getElem?_append_left (by omega)] at hz)
                · rw [List.getElem?_append_right (by omega)] at hz
                  have hi : i = k := by
                    have := (List.getElem?_eq_some_iff.1 hz).1
                    simp at this
                    omega
                  subst hi
                  rw [hl, Nat.sub_self] at hz
                  cases hz
                  have c0 := hcell 0 (by omega)
                  have c1 := hcell 1 (by omega)
                  have c2 := hcell 2 (by omega)
                  rw [Addr.add_add] at c0 c1 c2
                  exact ⟨c0, c1, v, c2, hrd⟩
        obtain ⟨l, hl, hw, hcell⟩ := key len (Nat.le_refl _)
        refine ⟨Item.mk b s.data.toList l, _, rfl, ?_, ?_⟩
        · show Reads W W.heap.size (.slice (some a) len cap) l
          subst hl
          cases l with
          | nil => exact ⟨1, some a, cap, rfl, hlcap, .inl rfl⟩
          | cons y r =>
            have c0 := (hcell 0 y rfl).1
            rw [Nat.zero_mul] at c0
            have hsp := World.cell?_spot c0
            have hlt := World.block_lt_of_cell? W _ c0
            have e0 : a.add 0 = a := by unfold Addr.add; simp
            rw [e0] at hsp hlt
            obtain ⟨g, o, sp⟩ := a
            cases hsp
            have ea : ∀ j, (⟨g, o, none⟩ : Addr).add j = ⟨g, o + j, none⟩ := fun j => by unfold Addr.add; split <;> simp_all
            refine Reads.mk hlt (fun i x hx => ?_) hlcap
            obtain ⟨q0, q1, v, q2, q3⟩ := hcell i x hx
            rw [ea] at q0 q1 q2
            exact ⟨q0, q1, v, q2, q3⟩
        · rw [List.take_of_length_le (by omega)] at hw
          simp only [Item.weight, List.map_cons, List.map_nil, Rows.uptoBulk, Rows.uptoBulkAll]
          omega
set_option maxRecDepth 100000 in
theorem open_item {H : Type} {enc : TypeId × Value → H} {W : World} {r : Reach} {b0 : Nat} {v : Value} {d : DataW H} {ps : List MemPlace} (hval : Value.okWide Tryd.prog W r b0 51 v) (hd : DataW.Trod enc Tryd.prog W 0 (fun _ => true) true 51 v d ps) :
    ∃ (y : Item) (u : Value), v = .agg #[.bool y.isList, .string ⟨y.text.toArray⟩, u] ∧ Reads W W.heap.size u y.list ∧ y.weight ≤ Rows.uptoBulk d := by
  obtain ⟨cs, rfl, _⟩ := okWide_struct Tryd.underlying51 hval
  obtain ⟨fuel, hf⟩ := hd
  obtain ⟨y, u, hcs, hr, hw⟩ := item_of_trod fuel _ _ hf
  refine ⟨y, u, ?_, hr, hw⟩
  have : cs.toList = [.bool y.isList, .string ⟨y.text.toArray⟩, u] := hcs
  rw [← this]
end Go.Proofs.YtmjblnhnadffmaaDoor
