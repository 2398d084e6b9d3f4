/- What the walks take: MapV. -/
import Derived.Test.YtlelgbmbmajfmaaGreatDoorS2
import Derived.MapKept
import Derived.RangeFuncRecord
namespace Go.Proofs.YtlelgbmbmajfmaaGreatDoor
open Go.RowKit Go.Lib Go.MapKept
/-- keys of a kind: they are right, and the first entry with an equal one is found -/
structure KeyFit (P : Program) (kt : TypeId) (K : Value → Prop) : Prop where
  check : ∀ k w e, K k → (Instr.checkKey e 10000 kt k).run P w = .ok () w
  find : ∀ k (l : List MapEntry) w, K k → (∀ x ∈ l, K x.key) → ((Instr.findKey kt k l).run P w = .ok none w ∧ ∀ x ∈ l, x.key ≠ k) ∨ ∃ j e, (Instr.findKey kt k l).run P w = .ok (some (j, e.val)) w ∧ l[j]? = some e ∧ e.key = k
  stays : ∀ k w, K k → (Instr.keyThatStays k k).run P w = .ok k w
def IsStr : Value → Prop := fun v => ∃ s, v = .string s
theorem keyFit_string {P : Program} {kt : TypeId} (hd : P.underlying kt = some .string) : KeyFit P kt IsStr where
  check := fun k w e hk => by obtain ⟨s, rfl⟩ := hk; exact run_checkKey hd (k := .string s) trivial e 9999
  find := fun k l w hk hl => by
    obtain ⟨s, rfl⟩ := hk
    have hl' : ∀ x ∈ l, IsKey .string x.key := fun x hx => by obtain ⟨t, ht⟩ := hl x hx; rw [ht]; trivial
    rcases findNow_spec (d := .string) (k := .string s) trivial l 0 hl' with ⟨h1, h2⟩ | ⟨j, e, h1, h2, h3⟩
    · exact .inl ⟨run_findKey hd h1, h2⟩
    · rw [Nat.zero_add] at h1
      exact .inr ⟨j, e, run_findKey hd h1, h2, h3⟩
  stays := fun k w hk => by obtain ⟨s, rfl⟩ := hk; exact run_keyThatStays (d := .string) trivial
open Classical in
/-- a function, changed at one key -/
noncomputable def updV (F : Value → Option Value) (k v : Value) : Value → Option Value := fun x => if x = k then some v else F x
theorem updV_same (F : Value → Option Value) (k v : Value) : updV F k v k = some v := by unfold updV; exact if_pos rfl
theorem updV_other (F : Value → Option Value) (k v : Value) {x : Value} (h : x ≠ k) : updV F k v x = F x := by unfold updV; exact if_neg h
/-- a map in block r is the function F -/
def MapV (K : Value → Prop) (w : World) (r : Nat) (F : Value → Option Value) : Prop :=
  ∃ es clock, w.heap[r]? = some (.map es clock) ∧ (∀ x ∈ es.toList, K x.key) ∧ es.toList.Pairwise (fun x y => x.key ≠ y.key) ∧ ∀ k v, F k = some v ↔ ∃ x ∈ es.toList, x.key = k ∧ x.val = v
theorem MapV.new (K : Value → Prop) (w : World) : MapV K (w.alloc (.map #[] 0)) w.heap.size (fun _ => none) :=
  ⟨#[], 0, heap_alloc_new w _, by simp, by simp, by simp⟩
theorem MapV.lt {K : Value → Prop} {w : World} {r : Nat} {F : Value → Option Value} (h : MapV K w r F) : r < w.heap.size := by
  obtain ⟨es, c, hb, _⟩ := h
  exact (Array.getElem?_eq_some_iff.1 hb).1
theorem MapV.kept {K : Value → Prop} {w w' : World} {r : Nat} {F : Value → Option Value} (h : MapV K w r F) (hb : w'.heap[r]? = w.heap[r]?) : MapV K w' r F := by
  obtain ⟨es, c, h1, h2⟩ := h
  exact ⟨es, c, by rw [hb]; exact h1, h2⟩
theorem MapV.after {K : Value → Prop} {w w' : World} {r : Nat} {F : Value → Option Value} (h : MapV K w r F) (hb : Below w.heap.size w w') : MapV K w' r F := h.kept (hb.block r h.lt)
theorem pair_unique {l : List MapEntry} (h : l.Pairwise (fun x y => x.key ≠ y.key)) {x y : MapEntry} (hx : x ∈ l) (hy : y ∈ l) (e : x.key = y.key) : x = y := by
  induction l with
  | nil => cases hx
  | cons a t ih =>
    rw [List.pairwise_cons] at h
    rcases List.mem_cons.1 hx with rfl | hx'
    · rcases List.mem_cons.1 hy with rfl | hy'
      · rfl
      · exact absurd e (h.1 y hy')
    · rcases List.mem_cons.1 hy with rfl | hy'
      · exact absurd e.symm (h.1 x hx')
      · exact ih h.2 hx' hy'
theorem MapV.lookup {P : Program} {mty kt et : TypeId} {K : Value → Prop} {w : World} {r : Nat} {F : Value → Option Value} (h : MapV K w r F) (hm : P.underlying mty = some (.map kt et)) (hK : KeyFit P kt K) {z : Value} (hz : (zeroValue et).run P w = .ok z w) (k : Value) (hk : K k) (c : Bool) :
    (Instr.lookup mty (.map (some r)) k c).run P w = .ok (if c then .tuple #[(F k).getD z, .bool (F k).isSome] else (F k).getD z) w := by
  obtain ⟨es, clock, hb, h1, h2, h3⟩ := h
  rcases hK.find k es.toList w hk h1 with ⟨h4, h5⟩ | ⟨j, e, h4, h5, h6⟩
  · have hF : F k = none := by
      cases hf : F k with
      | none => rfl
      | some v =>
        obtain ⟨x, hx, e, _⟩ := (h3 k v).1 hf
        exact absurd e (h5 x hx)
    simp [Instr.lookup, run_underlying hm, MapKept.run_getObj_map hb, hK.check k w _ hk, h4, hz, hF, Result.andThen]
  · have hF : F k = some e.val := (h3 k e.val).2 ⟨e, List.mem_of_getElem? h5, h6, rfl⟩
    simp [Instr.lookup, run_underlying hm, MapKept.run_getObj_map hb, hK.check k w _ hk, h4, hF, Result.andThen]
theorem MapV.drew {K : Value → Prop} {w : World} {r : Nat} {F : Value → Option Value} (h : MapV K w r F) : MapV K w.drew r F := h
theorem MapV.update {P : Program} {mty kt et : TypeId} {K : Value → Prop} {w : World} {r : Nat} {F : Value → Option Value} (h : MapV K w r F) (hm : P.underlying mty = some (.map kt et)) (hK : KeyFit P kt K) (k v : Value) (hk : K k) :
    ∃ o, (Instr.mapUpdate mty (.map (some r)) k v).run P w = .ok () (w.putObj r o) ∧ MapV K (w.putObj r o) r (updV F k v) := by
  have hlt := h.lt
  obtain ⟨es, clock, hb, h1, h2, h3⟩ := h
  rcases hK.find k es.toList w hk h1 with ⟨h4, h5⟩ | ⟨j, e, h4, h5, h6⟩
  · refine ⟨.map (es.push { key := k, val := v, born := clock }) (clock + 1), ?_, es.push { key := k, val := v, born := clock }, clock + 1, World.putObj_heap_same hlt, ?_, ?_, ?_⟩
    · simp [Instr.mapUpdate, run_underlying hm, MapKept.run_getObj_map hb, hK.check k w _ hk, h4, run_setObj_map _ hb, World.putObj, Result.andThen]
    · intro x hx
      simp only [Array.toList_push, List.mem_append, List.mem_singleton] at hx
      rcases hx with hx | rfl
      · exact h1 x hx
      · exact hk
    · simp only [Array.toList_push, List.pairwise_append]
      refine ⟨h2, by simp, fun a ha b hb2 => ?_⟩
      rw [List.mem_singleton] at hb2
      subst hb2
      exact h5 a ha
    · intro k2 v2
      by_cases he : k2 = k
      · subst he
        rw [updV_same]
        constructor
        · intro e
          cases e
          exact ⟨_, by simp; exact .inr rfl, rfl, rfl⟩
        · rintro ⟨x, hx, e1, e2⟩
          simp only [Array.toList_push, List.mem_append, List.mem_singleton] at hx
          rcases hx with hx | rfl
          · exact absurd e1 (h5 x hx)
          · exact congrArg some e2
      · rw [updV_other F k v he, h3]
        constructor
        · rintro ⟨x, hx, e⟩
          exact ⟨x, by simp only [Array.toList_push, List.mem_append]; exact .inl hx, e⟩
        · rintro ⟨x, hx, e1, e2⟩
          simp only [Array.toList_push, List.mem_append, List.mem_singleton] at hx
          rcases hx with hx | rfl
          · exact ⟨x, hx, e1, e2⟩
          · exact absurd e1.symm he
  · have hj : es[j]? = some e := by simpa using h5
    have hjl : j < es.size := (Array.getElem?_eq_some_iff.1 hj).1
    have hje : es[j] = e := (Array.getElem?_eq_some_iff.1 hj).2
    obtain ⟨es', hes⟩ : ∃ es', es.modify j (fun e => { e with key := k, val := v }) = es' := ⟨_, rfl⟩
    have hl : es'.toList = es.toList.set j { e with key := k, val := v } := by
      rw [← hes]
      apply List.ext_getElem?
      intro i
      simp only [Array.getElem?_toList, Array.getElem?_modify, List.getElem?_set, Array.length_toList]
      by_cases hij : j = i
      · subst hij
        rw [if_pos rfl, if_pos rfl, if_pos hjl, hj]
        rfl
      · rw [if_neg hij, if_neg hij]
    have hek : ({ e with key := k, val := v } : MapEntry).key = e.key := h6.symm
    refine ⟨.map es' clock, ?_, es', clock, World.putObj_heap_same hlt, ?_, ?_, ?_⟩
    · simp [Instr.mapUpdate, run_underlying hm, MapKept.run_getObj_map hb, hK.check k w _ hk, h4, hj, h6, hK.stays k w hk, run_setObj_map _ hb, World.putObj, Result.andThen, hes]
    · intro x hx
      rw [hl] at hx
      rcases List.mem_or_eq_of_mem_set hx with hx | rfl
      · exact h1 x hx
      · exact hk
    · rw [hl]
      have hmap : (es.toList.set j { e with key := k, val := v }).map (·.key) = es.toList.map (·.key) := by
        rw [List.map_set]
        show (es.toList.map (·.key)).set j k = _
        rw [← h6]
        apply List.ext_getElem?
        intro i
        rw [List.getElem?_set]
        split
        · rename_i hi
          subst hi
          split
          · rw [List.getElem?_map, h5]; rfl
          · rename_i hn; simp at hn; omega
        · rfl
      have : (es.toList.map (·.key)).Pairwise (fun a b => a ≠ b) := List.pairwise_map.2 h2
      rw [← hmap] at this
      exact List.pairwise_map.1 this
    · intro k2 v2
      rw [hl]
      by_cases he : k2 = k
      · subst he
        rw [updV_same]
        constructor
        · intro e2
          cases e2
          exact ⟨_, List.mem_of_getElem? (by rw [List.getElem?_set_self (by simpa using hjl)]), rfl, rfl⟩
        · rintro ⟨x, hx, e1, e2⟩
          obtain ⟨i, hi⟩ := List.mem_iff_getElem?.1 hx
          rw [List.getElem?_set] at hi
          split at hi
          · split at hi
            · cases hi; exact congrArg some e2
            · cases hi
          · rename_i hne
            have hx2 : x ∈ es.toList := List.mem_of_getElem? hi
            have := pair_unique h2 hx2 (List.mem_of_getElem? h5) (e1.trans h6.symm)
            subst this
            exfalso
            obtain ⟨hi1, hi2⟩ := List.getElem?_eq_some_iff.1 hi
            obtain ⟨hj1, hj2⟩ := List.getElem?_eq_some_iff.1 h5
            rcases Nat.lt_trichotomy i j with hh | hh | hh
            · exact List.pairwise_iff_getElem.1 h2 i j hi1 hj1 hh (by rw [hi2, hj2])
            · exact hne hh.symm
            · exact List.pairwise_iff_getElem.1 h2 j i hj1 hi1 hh (by rw [hi2, hj2])
      · rw [updV_other F k v he, h3]
        constructor
        · rintro ⟨x, hx, e1, e2⟩
          obtain ⟨i, hi⟩ := List.mem_iff_getElem?.1 hx
          refine ⟨x, List.mem_of_getElem? (i := i) ?_, e1, e2⟩
          rw [List.getElem?_set_ne]
          · exact hi
          · intro hji
            subst hji
            rw [h5] at hi
            cases hi
            exact he (e1.symm.trans h6)
        · rintro ⟨x, hx, e1, e2⟩
          rcases List.mem_or_eq_of_mem_set hx with hx | rfl
          · exact ⟨x, hx, e1, e2⟩
          · exact absurd e1.symm he
end Go.Proofs.YtlelgbmbmajfmaaGreatDoor
