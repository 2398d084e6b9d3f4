/- What the walks take: Mov. -/
import Derived.Test.YtlelgbmbmajfmaaGreatDoorS3
import Derived.Test.YtlelgbmbmajfmaaGreatDoorS10
import Derived.Orders
import Derived.OrdersIn
import Derived.OrdersHeld
import Derived.TacticsInMore
namespace Go.Proofs.YtlelgbmbmajfmaaGreatDoor
open Go.RowKit Go.Shelf Go.Lib
attribute [local go_sem] Oper.semAt_some
universe u
theorem zq : type_of% (And.intro @List.getElem_toArray.{u} (And.intro @List.getElem_cons_zero.{u} (And.intro @List.getElem_cons_succ.{u} (And.intro @List.setIfInBounds_toArray.{u} (And.intro @List.set_cons_zero.{u} @List.set_cons_succ.{u}))))) := ⟨@List.getElem_toArray.{u}, @List.getElem_cons_zero.{u}, @List.getElem_cons_succ.{u}, @List.setIfInBounds_toArray.{u}, @List.set_cons_zero.{u}, @List.set_cons_succ.{u}⟩
section
variable {P : Program} {ops : Array Oper} {Q : Exit → Act → World → Prop} {md : Region.Mode}
theorem hT (i : Nat) {S : World → Prop} {oi : Oper} {v : Value} {N fuel : Nat} {listed l' : Array Bool} {a a' : Act} {w : World} (h : wpAnyH P md ops Q S fuel l' a' w)
    (hN : N = fuel + 1 := by rfl) (hi : ops[i]? = some oi := by rfl) (hs : Region.noSelect ops = true := by kernel_rfl) (hf : Region.free md ops listed i = true := by kernel_rfl)
    (hr : (Region.ready md ops listed).contains i = true := by kernel_rfl) (hw : Region.wanted oi (yielded ops a.tmps) = true := by rfl)
    (hy : ∀ w, S w → (execOp a.eval oi).run P w = .ok (.value v) w := by intro w0 hSw; go_simp <;> with_reducible rfl)
    (ha : a.put oi.dst v = a' := by (try simp only [Act.put, zq]) <;> rfl) (hl : listed.setIfInBounds i true = l' := by (try simp only [zq]) <;> rfl)
    (hQ : ∀ c a w, Q (.panic c) (a.put oi.dst v) w → Q (.panic c) a w := by exact fun _ _ _ h => h) (hS : S w := by assumption) :
    wpAnyH P md ops Q S N listed a w := by
  subst hN; exact wpAnyH_take hi hs hf hr hQ (.inl ⟨hw, hy⟩) hS (by rw [ha, hl]; exact h)
theorem hU (i : Nat) {S : World → Prop} {oi : Oper} {v : Value} {N fuel : Nat} {listed l' : Array Bool} {a a' : Act} {w : World} (h : wpAnyH P md ops Q S fuel l' a' w)
    (hN : N = fuel + 1 := by rfl) (hi : ops[i]? = some oi := by rfl) (hs : Region.noSelect ops = true := by kernel_rfl) (hf : Region.free md ops listed i = true := by kernel_rfl)
    (hr : (Region.ready md ops listed).contains i = true := by kernel_rfl) (hw : Region.wanted oi (yielded ops a.tmps) = true := by rfl) (hy : ∀ w, S w → (execOp a.eval oi).run P w = .ok (.value v) w)
    (ha : a.put oi.dst v = a' := by (try simp only [Act.put, zq]) <;> rfl) (hl : listed.setIfInBounds i true = l' := by (try simp only [zq]) <;> rfl)
    (hQ : ∀ c a w, Q (.panic c) (a.put oi.dst v) w → Q (.panic c) a w := by exact fun _ _ _ h => h) (hS : S w := by assumption) :
    wpAnyH P md ops Q S N listed a w := by
  subst hN; exact wpAnyH_take hi hs hf hr hQ (.inl ⟨hw, hy⟩) hS (by rw [ha, hl]; exact h)
theorem hV (i : Nat) {S : World → Prop} {oi : Oper} {N fuel : Nat} {listed l' : Array Bool} {a a' : Act} {w : World} (h : wpAnyH P md ops Q S fuel l' a' w)
    (hN : N = fuel + 1 := by rfl) (hi : ops[i]? = some oi := by rfl) (hs : Region.noSelect ops = true := by kernel_rfl) (hf : Region.free md ops listed i = true := by kernel_rfl)
    (hr : (Region.ready md ops listed).contains i = true := by kernel_rfl) (hw : Region.wanted oi (yielded ops a.tmps) = false := by rfl)
    (ha : a.put oi.dst undef = a' := by (try simp only [Act.put, zq]) <;> rfl) (hl : listed.setIfInBounds i true = l' := by (try simp only [zq]) <;> rfl)
    (hQ : ∀ c a w, Q (.panic c) (a.put oi.dst undef) w → Q (.panic c) a w := by exact fun _ _ _ h => h) (hS : S w := by assumption) :
    wpAnyH P md ops Q S N listed a w := by
  subst hN; exact wpAnyH_take hi hs hf hr hQ (.inr ⟨hw, rfl⟩) hS (by rw [ha, hl]; exact h)
theorem lU (i fuel : Nat) {k : Nat} {R : World → Prop} {oi : Oper} {v : Value} {listed l' : Array Bool} {a a' : Act} {w : World} (hS : R w) (h : wpAnyL P md ops Q (fun L w' => L.getD k true = false → R w') fuel l' a' w)
    (hi : ops[i]? = some oi := by rfl) (hs : Region.noSelect ops = true := by kernel_rfl) (hf : Region.free md ops listed i = true := by kernel_rfl)
    (hr : (Region.ready md ops listed).contains i = true := by kernel_rfl) (hc : closedB md ops listed = true := by kernel_rfl) (hw : Region.wanted oi (yielded ops a.tmps) = true := by rfl) (hy : ∀ w, R w → (execOp a.eval oi).run P w = .ok (.value v) w)
    (hk : waitsFor md ops k i = true := by kernel_rfl) (hne : i ≠ k := by omega)
    (ha : a.put oi.dst v = a' := by (try simp only [Act.put, zq]) <;> rfl) (hl : listed.setIfInBounds i true = l' := by (try simp only [zq]) <;> rfl)
    (hQ : ∀ c a w, Q (.panic c) (a.put oi.dst v) w → Q (.panic c) a w := by exact fun _ _ _ h => h) :
    wpAnyL P md ops Q (fun L w' => L.getD k true = false → R w') (fuel + 1) listed a w :=
  wpAnyL_take hi hs hf hr hc hQ (fun _ _ => by rw [getD_set_ne true hne]) (fun _ => hS) (.inl ⟨hw, fun w' ⟨_, h1, h0, h2⟩ => hy w' (h2 (closedB_before h1 hk h0))⟩) (by rw [ha, hl]; exact h)
theorem lT (i fuel : Nat) {k : Nat} {R : World → Prop} {oi : Oper} {v : Value} {listed l' : Array Bool} {a a' : Act} {w : World} (hS : R w) (h : wpAnyL P md ops Q (fun L w' => L.getD k true = false → R w') fuel l' a' w)
    (hi : ops[i]? = some oi := by rfl) (hs : Region.noSelect ops = true := by kernel_rfl) (hf : Region.free md ops listed i = true := by kernel_rfl)
    (hr : (Region.ready md ops listed).contains i = true := by kernel_rfl) (hc : closedB md ops listed = true := by kernel_rfl) (hw : Region.wanted oi (yielded ops a.tmps) = true := by rfl)
    (hne : i ≠ k := by omega) (hy : ∀ w, (execOp a.eval oi).run P w = .ok (.value v) w := by intro w0; go_simp <;> with_reducible rfl)
    (ha : a.put oi.dst v = a' := by (try simp only [Act.put, zq]) <;> rfl) (hl : listed.setIfInBounds i true = l' := by (try simp only [zq]) <;> rfl)
    (hQ : ∀ c a w, Q (.panic c) (a.put oi.dst v) w → Q (.panic c) a w := by exact fun _ _ _ h => h) :
    wpAnyL P md ops Q (fun L w' => L.getD k true = false → R w') (fuel + 1) listed a w :=
  wpAnyL_take hi hs hf hr hc hQ (fun _ _ => by rw [getD_set_ne true hne]) (fun _ => hS) (.inl ⟨hw, fun w' _ => hy w'⟩) (by rw [ha, hl]; exact h)
end
section
variable {P : Program} {ops : Array Oper} {Q : Exit → Act → World → Prop} {md : Region.Mode}
theorem hD (i : Nat) {S : World → Prop} {oi : Oper} {v : Value} {N fuel : Nat} {listed l' : Array Bool} {a a' : Act} {w : World} (h : wpAnyH P md ops Q S fuel l' a' w)
    (hN : N = fuel + 1 := by rfl) (hi : ops[i]? = some oi := by rfl) (hs : Region.noSelect ops = true := by kernel_rfl) (hf : Region.free md ops listed i = true := by kernel_rfl)
    (hr : (Region.ready md ops listed).contains i = true := by kernel_rfl) (hw : Region.wanted oi (yielded ops a.tmps) = true := by rfl) (hy : ∀ w, S w → (execOp a.eval oi).run P w = .ok (.value v) w := by intro w0 hSw; (try dsimp only at hSw); go_simp <;> with_reducible rfl)
    (ha : a.put oi.dst v = a' := by (try simp only [Act.put, zq]) <;> rfl) (hl : listed.setIfInBounds i true = l' := by (try simp only [zq]) <;> rfl)
    (hQ : ∀ c a w, Q (.panic c) (a.put oi.dst v) w → Q (.panic c) a w := by exact fun _ _ _ h => h) (hS : S w := by assumption) :
    wpAnyH P md ops Q S N listed a w := by
  subst hN; exact wpAnyH_take hi hs hf hr hQ (.inl ⟨hw, hy⟩) hS (by rw [ha, hl]; exact h)
theorem hE (i : Nat) {S : World → Prop} {oi : Oper} {v : Value} {N fuel : Nat} {listed l' : Array Bool} {a a' : Act} {w : World} (h : wpAnyH P md ops Q S fuel l' a' w)
    (hN : N = fuel + 1 := by rfl) (hi : ops[i]? = some oi := by rfl) (hs : Region.noSelect ops = true := by kernel_rfl) (hf : Region.free md ops listed i = true := by kernel_rfl)
    (hr : (Region.ready md ops listed).contains i = true := by kernel_rfl) (hw : Region.wanted oi (yielded ops a.tmps) = true := by rfl) (hy : ∀ w, S w → (execOp a.eval oi).run P w = .ok (.value v) w := by intro w0 hSw; (try dsimp only at hSw); go_simp)
    (ha : a.put oi.dst v = a' := by (try simp only [Act.put, zq]) <;> rfl) (hl : listed.setIfInBounds i true = l' := by (try simp only [zq]) <;> rfl)
    (hQ : ∀ c a w, Q (.panic c) (a.put oi.dst v) w → Q (.panic c) a w := by exact fun _ _ _ h => h) (hS : S w := by assumption) :
    wpAnyH P md ops Q S N listed a w := by
  subst hN; exact wpAnyH_take hi hs hf hr hQ (.inl ⟨hw, hy⟩) hS (by rw [ha, hl]; exact h)
theorem lD (i fuel : Nat) {k : Nat} {R : World → Prop} {oi : Oper} {v : Value} {listed l' : Array Bool} {a a' : Act} {w : World} (hS : R w) (h : wpAnyL P md ops Q (fun L w' => L.getD k true = false → R w') fuel l' a' w)
    (hi : ops[i]? = some oi := by rfl) (hs : Region.noSelect ops = true := by kernel_rfl) (hf : Region.free md ops listed i = true := by kernel_rfl)
    (hr : (Region.ready md ops listed).contains i = true := by kernel_rfl) (hc : closedB md ops listed = true := by kernel_rfl) (hw : Region.wanted oi (yielded ops a.tmps) = true := by rfl) (hy : ∀ w, R w → (execOp a.eval oi).run P w = .ok (.value v) w := by intro w0 hSw; (try dsimp only at hSw); go_simp <;> with_reducible rfl)
    (hk : waitsFor md ops k i = true := by kernel_rfl) (hne : i ≠ k := by omega)
    (ha : a.put oi.dst v = a' := by (try simp only [Act.put, zq]) <;> rfl) (hl : listed.setIfInBounds i true = l' := by (try simp only [zq]) <;> rfl)
    (hQ : ∀ c a w, Q (.panic c) (a.put oi.dst v) w → Q (.panic c) a w := by exact fun _ _ _ h => h) :
    wpAnyL P md ops Q (fun L w' => L.getD k true = false → R w') (fuel + 1) listed a w :=
  wpAnyL_take hi hs hf hr hc hQ (fun _ _ => by rw [getD_set_ne true hne]) (fun _ => hS) (.inl ⟨hw, fun w' ⟨_, h1, h0, h2⟩ => hy w' (h2 (closedB_before h1 hk h0))⟩) (by rw [ha, hl]; exact h)
theorem hR (i : Nat) {S : World → Prop} {o : Oper} {N fuel : Nat} {listed : Array Bool} {a : Act} {w : World}
    (h : ∀ K' : Act → World → Prop, Shut (∀ a w, S w → (S w → wpAnyH P md ops Q S fuel (listed.setIfInBounds i true) a w) → K' a w) → if Region.wanted o (yielded ops a.tmps) = true then Oper.wp P o a w K' Q else K' (a.put o.dst undef) w)
    (hN : N = fuel + 1 := by rfl) (hr : Region.ready md ops listed = [i] := by kernel_rfl) (ho : ops[i]? = some o := by rfl) : wpAnyH P md ops Q S N listed a w := by
  subst hN; exact wpAnyH_ready hr (by simp) (AllReadyH.cons ho h AllReadyH.nil)
end
end Go.Proofs.YtlelgbmbmajfmaaGreatDoor
