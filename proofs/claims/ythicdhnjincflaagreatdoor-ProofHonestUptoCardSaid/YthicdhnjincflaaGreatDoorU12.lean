/- What the walks take: IteB. -/
import Derived.Test.YthicdhnjincflaaGreatDoorU0
import Derived.Test.YthicdhnjincflaaGreatDoorU9
import Derived.Test.YthicdhnjincflaaGreatDoorU10
import Derived.Test.YthicdhnjincflaaGreatDoorU11
import Derived.OwnWalkIn
import Derived.TacticsInMore
import Derived.LoopNIn
import Derived.LoopIn
import Derived.Outline
namespace Go.Proofs.YthicdhnjincflaaGreatDoor
open Go.RowKit Go.Shelf Go.Lib
abbrev El := (Item × Value) × Bool
def itemsOf (xs : List El) : List Item := xs.map fun q => q.1.1
theorem itemsOf_snoc (xs : List El) (q : El) : itemsOf (xs ++ [q]) = itemsOf xs ++ [q.1.1] := by simp [itemsOf]
def Rest (s : List UInt8) (pre : List El) (rest : List UInt8) : Prop :=
  (∀ q, q ∈ pre → q.2 = true) ∧ all s = (all rest).map (itemsOf pre ++ ·) ∧ pre.length + rest.length ≤ s.length
theorem Rest.start (s : List UInt8) : Rest s [] s := ⟨by simp, by simp [itemsOf], by simp⟩
theorem first_short {s rest : List UInt8} {x : Item} (h : first s = some (x, rest)) : rest.length < s.length := by
  unfold first at h
  split at h
  · cases h
  · rename_i inn b r hc
    have := (cut_short hc).1
    split at h
    · cases ha : all inn with
      | none => rw [ha] at h; cases h
      | some l => rw [ha] at h; cases h; exact this
    · cases h; exact this
theorem Rest.step {s rest rest' : List UInt8} {pre : List El} {x : Item} (h : Rest s pre rest) (hne : rest ≠ []) (hf : first rest = some (x, rest')) (v : Value) : Rest s (pre ++ [((x, v), true)]) rest' := by
  obtain ⟨h1, h2, h3⟩ := h
  have h4 := first_short hf
  refine ⟨fun q hq => ?_, ?_, by simp; omega⟩
  · rcases List.mem_append.1 hq with h | h
    · exact h1 q h
    · simp at h; rw [h]
  · rw [h2, all_step hne, hf, itemsOf_snoc]
    cases hr : all rest' <;> simp [hr]
theorem Rest.bad {s rest : List UInt8} {pre : List El} (h : Rest s pre rest) (hne : rest ≠ []) (hf : first rest = Option.none) : all s = Option.none := by
  rw [h.2.1, all_step hne, hf]; rfl
theorem Rest.done {s : List UInt8} {pre : List El} (h : Rest s pre []) : all s = some (itemsOf pre) := by
  rw [h.2.1, all_nil]; simp
theorem Rest.lt {s rest : List UInt8} {pre : List El} (h : Rest s pre rest) (hne : rest ≠ []) : pre.length < s.length := by
  have h3 := h.2.2
  have : 0 < rest.length := List.length_pos_iff.2 hne
  omega
theorem first_none {s : List UInt8} (h : cut s = Option.none) : first s = Option.none := by unfold first; rw [h]
theorem first_text {s inn rest : List UInt8} (h : cut s = some (inn, false, rest)) : first s = some (Item.mk false inn [], rest) := by unfold first; rw [h]; rfl
theorem first_list {s inn rest : List UInt8} (h : cut s = some (inn, true, rest)) : first s = (all inn).map fun l => (Item.mk true [] l, rest) := by unfold first; rw [h]; rfl
def AllIs (s : List UInt8) (e : Ending) (w w' : World) : Prop :=
  Below w.heap.size w w' ∧
  ((∃ (xs : List Item) (p : Option Addr) (c : Nat), e = .returned (.tuple #[.slice p xs.length c, .bool true]) ∧ Hid (all s = some xs) ∧ Hid (ReadsIn w' (fun g => w.heap.size ≤ g ∧ g < w'.heap.size) (.slice p xs.length c) xs)) ∨
   (∃ (p : Option Addr) (n c : Nat), e = .returned (.tuple #[.slice p n c, .bool false]) ∧ Hid (all s = Option.none)))
def encEl (x : El) : Array Value := #[.agg #[.bool x.1.1.isList, .string ⟨x.1.1.text.toArray⟩, x.1.2], .bool x.2]
def StepI (Bn : Nat) (A B : World) : Prop := A.grownBy B (some Bn) ∧ ((∃ t, Boxed A Bn 9 (.string t)) → ∃ t, Boxed B Bn 9 (.string t))
def GoodI (N : Nat) (pre : List El) (x : El) (W0 W1 : World) : Prop :=
  pre.length < N ∧ (∃ p n c, x.1.2 = .slice p n c) ∧ (x.2 = true → ReadsIn W1 (fun g => W0.heap.size ≤ g ∧ g < W1.heap.size) x.1.2 x.1.1.list)
def SameBox (B : Nat) (W W' : World) : Prop := W'.heap[B]? = W.heap[B]?
def doneI (s : List UInt8) (xs : List El) : Prop := (∀ q, q ∈ xs → q.2 = true) → all s = some (itemsOf xs)
def stopI (s : List UInt8) (xs : List El) : Prop := (∃ q, q ∈ xs ∧ q.2 = false) → all s = Option.none
def boxLen (W : World) (B : Nat) : Nat := match W.cell? ⟨B, 0, none⟩ with
  | some (.string b) => b.size
  | _ => 0
theorem boxLen_of {W : World} {B : Nat} {t : TypeId} {b : ByteArray} (h : Boxed W B t (.string b)) : boxLen W B = b.size := by
  unfold boxLen; rw [h.cell]
theorem StepI.of {Bn : Nat} {wr w1 : World} {t : ByteArray} (hB : Below wr.heap.size wr w1) (hb : Boxed w1 Bn 9 (.string t)) (t' : ByteArray) : StepI Bn wr (w1.setCell ⟨Bn, 0, none⟩ (.string t')) ∧ Boxed (w1.setCell ⟨Bn, 0, none⟩ (.string t')) Bn 9 (.string t') := by
  have h1 : wr.grownBy w1 none := ⟨hB.os, hB.tape, hB.output, hB.size, fun i hi _ => hB.block i hi⟩
  have h2 := grownBy_setCell' w1 Bn (.string t')
  refine ⟨⟨⟨h2.os.trans h1.os, h2.tape.trans h1.tape, h2.output.trans h1.output, Nat.le_trans h1.size h2.size, fun i hi hne => (h2.block i (Nat.lt_of_lt_of_le hi h1.size) hne).trans (h1.block i hi (by simp))⟩, fun _ => ⟨t', hb.set _⟩⟩, hb.set _⟩
theorem StepI.alloc {Bn : Nat} {wr w1 : World} (h : StepI Bn wr w1) {t : ByteArray} (hb : Boxed w1 Bn 9 (.string t)) (o : Obj) : StepI Bn wr (w1.alloc o) := by
  obtain ⟨h1, h2⟩ := h
  have h3 := World.grownBy_alloc w1 o none
  exact ⟨⟨h3.os.trans h1.os, h3.tape.trans h1.tape, h3.output.trans h1.output, Nat.le_trans h1.size h3.size, fun i hi hne => (h3.block i (Nat.lt_of_lt_of_le hi h1.size) (by simp)).trans (h1.block i hi hne)⟩, fun _ => ⟨t, hb.alloc o⟩⟩
theorem items_any (F : Fence) (n : Nat) (hf : F.fn 100) (hro : F.round = none) (s : ByteArray) (w : World) :
    CallsIn F n Tryz.prog 100 #[.string s] w fun e w' => e = .returned (.func (.func 120) #[] #[.pointer (some ⟨w.heap.size, 0, none⟩)]) ∧ w' = w.alloc (.cells #[.string s] 9) := by
  refine callsIn_of_wp Tryz.func100 rfl hf ?_ hro
  simp only [Tryz.ntmps100, List.size_toArray, List.length_cons, List.length_nil, Nat.reduceAdd, Nat.reduceSub, Array.replicate_succ, Array.replicate_zero, List.push_toArray, List.append_toArray, List.nil_append, List.cons_append]
  gi_wp2
  go_ret
  exact ⟨rfl, rfl⟩
end Go.Proofs.YthicdhnjincflaaGreatDoor
/- The walk of the iterator of rlp.items. -/
namespace Go.Proofs.YthicdhnjincflaaGreatDoor
open Go.RowKit Go.Shelf Go.Lib
attribute [local go_sem] Oper.semAt_some
set_option maxRecDepth 100000 in
set_option maxHeartbeats 3200000 in
theorem items_body (n : Nat) (hn : 1 ≤ n) (l Bn : Nat) (s : List UInt8) (hs : s.length ≤ 1099511627776)
    (hall : ∀ (t : List UInt8) (W : World), t.length < s.length → Calls Tryz.prog 77 #[.string ⟨t.toArray⟩] W fun e W' => AllIs t e W W')
    (J Jx : List El → World → Prop)
    (hY : ∀ pre x W0 W1, J pre W0 → StepI Bn W0 W1 → GoodI s.length pre x W0 W1 → YieldAt Fence.wide (n - 1) Tryz.prog l (encEl x) W1 fun e W' =>
      (e = .returned (.bool true) ∧ J (pre ++ [x]) W' ∧ SameBox Bn W1 W') ∨ (e = .returned (.bool false) ∧ Jx (pre ++ [x]) W'))
    (W : World) (hbox : Boxed W Bn 9 (.string ⟨s.toArray⟩)) (h0 : J [] W) :
    CallsIn Fence.wide n Tryz.prog 120 #[.func (.yield l) #[] #[], .pointer (some ⟨Bn, 0, none⟩)] W fun e W' => (∃ v, e = .returned v) ∧
      ((∃ xs, doneI s xs ∧ J xs W') ∨ (∃ pre, stopI s pre ∧ Jx pre W')) := by
  refine callsIn_of_wp Tryz.func120 rfl trivial ?_ rfl
  simp only [Tryz.ntmps120, List.size_toArray, List.length_cons, List.length_nil, Nat.reduceAdd, Nat.reduceSub, Array.replicate_succ, Array.replicate_zero, List.push_toArray, List.append_toArray, List.nil_append, List.cons_append]
  gi_wp2
  gi_loopw [3] (fun _ wr => ∃ pre rest, Boxed wr Bn 9 (.string ⟨rest.toArray⟩) ∧ J pre wr ∧ Hid (Rest s pre rest)) (fun _ wr => boxLen wr Bn)
  case atStart => exact ⟨[], s, hbox, h0, Lib.hid (Rest.start s)⟩
  case round =>
    obtain ⟨pre, rest, hb, hJ0, HR⟩ := hrel
    have hc := hb.cell
    cases rest with
    | nil =>
      gi_wp2
      go_end0
      exact ⟨⟨_, rfl⟩, .inl ⟨pre, fun _ => HR.out.done, hJ0⟩⟩
    | cons c r =>
      have hne : (c :: r).isEmpty = false := rfl
      have hlen : (c :: r).length ≤ 1099511627776 := by have := HR.out.2.2; omega
      obtain ⟨t, ht⟩ : ∃ t, c :: r = t := ⟨_, rfl⟩
      rw [ht] at hb hc HR hne hlen
      have HT := Lib.hid (show t ≠ [] by rw [← ht]; simp)
      have HB := Lib.hid hb
      clear ht hb
      gi_wp2_with fail
      refine ⟨trivial, ?_⟩
      gi_at_call 121
      refine (callsIn_wide.2 (cut_any t _ hlen)).mono ?_
      rintro e w1 ⟨inn, rest', b, ok, rfl, HC, k, hw⟩
      have hb1 : Boxed w1 Bn 9 (.string ⟨t.toArray⟩) := by
        rw [hw]; exact HB.out
      have hB1 : Below wr.heap.size wr w1 := by rw [hw]; exact Below.drewN (Below.refl _ _) k
      have hc1 := hb1.cell
      have hf1 := hb1.frozen
      have hz1 := hb1.lt
      have HB1 := Lib.hid hB1
      have Hb1 := Lib.hid hb1
      clear hw hc hB1 hb1
      cases ok with
      | false =>
        obtain ⟨S1, S2⟩ := StepI.of HB1.out Hb1.out ⟨rest'.toArray⟩
        obtain ⟨f1, t1, a1, b1, hy1, hR1⟩ := hY pre ((Item.mk b inn [], .slice none 0 0), false) _ _ hJ0 (S1.alloc S2 (.cells #[.bool b, .string ⟨inn.toArray⟩, .slice none 0 0] 46)) ⟨HR.out.lt HT.out, ⟨none, 0, 0, rfl⟩, fun h => by cases h⟩
        clear S1 S2
        have HY := Lib.hid hy1
        simp only [encEl, Item.isList, Item.text] at hy1
        gi_wp2
        refine hR1.mono ?_
        clear hy1
        rintro e W1 (⟨rfl, hJ1, hk1⟩ | ⟨rfl, hx1⟩)
        · gi_wp2
          refine bodyPost_ret (results_none rfl _ _ _) rfl ?_
          exact ⟨⟨_, rfl⟩, .inl ⟨_, fun h => (by have := h ((Item.mk b inn [], .slice none 0 0), false) (by simp); cases this), hJ1⟩⟩
        · gi_wp2
          refine bodyPost_ret (results_none rfl _ _ _) rfl ?_
          exact ⟨⟨_, rfl⟩, .inr ⟨_, fun _ => HR.out.bad HT.out (first_none HC.out), hx1⟩⟩
      | true =>
        have hcut := HC.out
        simp only [if_true] at hcut
        have hsh := cut_short hcut
        cases b with
        | false =>
          obtain ⟨S1, S2⟩ := StepI.of HB1.out Hb1.out ⟨rest'.toArray⟩
          obtain ⟨f1, t1, a1, b1, hy1, hR1⟩ := hY pre ((Item.mk false inn [], .slice none 0 0), true) _ _ hJ0 (S1.alloc S2 (.cells #[.bool false, .string ⟨inn.toArray⟩, .slice none 0 0] 46)) ⟨HR.out.lt HT.out, ⟨none, 0, 0, rfl⟩, fun _ => ReadsIn.nil _ _⟩
          have HS2 := Lib.hid (S2.alloc (.cells #[.bool false, .string ⟨inn.toArray⟩, .slice none 0 0] 46))
          have HRs := Lib.hid (HR.out.step HT.out (first_text hcut) (.slice none 0 0))
          have hlt : rest'.length < t.length := hsh.1
          clear S1 S2 hcut hsh
          simp only [encEl, Item.isList, Item.text] at hy1
          gi_wp2
          refine hR1.mono ?_
          clear hy1
          rintro e W1 (⟨rfl, hJ1, hk1⟩ | ⟨rfl, hx1⟩)
          · have hb2 : Boxed W1 Bn 9 (.string ⟨rest'.toArray⟩) := hk1.trans HS2.out
            have Hb2 := Lib.hid hb2
            clear hb2 hk1
            gi_wp2
            go_roundw
            case rel => exact ⟨_, rest', Hb2.out, hJ1, HRs⟩
            case measure => rw [boxLen_of Hb2.out, boxLen_of HB.out, size_mk, size_mk]; exact hlt
          · gi_wp2
            refine bodyPost_ret (results_none rfl _ _ _) rfl ?_
            exact ⟨⟨_, rfl⟩, .inr ⟨_, fun ⟨q, hq, hq2⟩ => (by have := HRs.out.1 q hq; rw [this] at hq2; cases hq2), hx1⟩⟩
        | true =>
          have hin := hsh.2.2 rfl
          have hcall := Lib.hid (hall inn (w1.alloc (.cells #[.bool true, .string ⟨#[]⟩, .slice none 0 0] 46)) (by have := HR.out.2.2; omega))
          gi_wp2_with fail
          refine ⟨trivial, ?_⟩
          gi_at_call 77
          refine (callsIn_wide.2 hcall.out).mono ?_
          rintro e w2 ⟨hB2, hres⟩
          have hg : w1.heap.size < (w1.alloc (.cells #[.bool true, .string ⟨#[]⟩, .slice none 0 0] 46)).heap.size := by simp
          have hx2 : w2.heap[w1.heap.size]? = some (.cells #[.bool true, .string ⟨#[]⟩, .slice none 0 0] 46) := (hB2.block _ hg).trans (World.alloc_heap_new _ _)
          have hb2 : Boxed w2 Bn 9 (.string ⟨t.toArray⟩) := (hB2.block _ (Nat.lt_trans hz1 hg)).trans (Hb1.out.alloc _)
          have hB3 : Below wr.heap.size wr w2 := (HB1.out.alloc HB1.out.size _).trans (hB2.mono (by have := HB1.out.size; omega))
          have q0 : w2.cell? ⟨w1.heap.size, 0, none⟩ = some (.bool true) := by rw [World.cell?, hx2]; rfl
          have q1 : w2.cell? ⟨w1.heap.size, 1, none⟩ = some (.string ⟨#[]⟩) := by rw [World.cell?, hx2]; rfl
          have q2 : w2.cell? ⟨w1.heap.size, 2, none⟩ = some (.slice none 0 0) := by rw [World.cell?, hx2]; rfl
          have q3 : w2.frozen? ⟨w1.heap.size, 2, none⟩ = false := by rw [World.frozen?, hx2]; rfl
          have q4 := hb2.cell
          have q5 := hb2.frozen
          have n1 : ¬ Bn = w1.heap.size := by omega
          have n2 : ¬ w1.heap.size = Bn := by omega
          have hB4 : ∀ v, Below wr.heap.size wr (w2.setCell ⟨w1.heap.size, 2, none⟩ v) := fun v => hB3.setCell (p := ⟨w1.heap.size, 2, none⟩) HB1.out.size v
          have hb4 : ∀ v, Boxed (w2.setCell ⟨w1.heap.size, 2, none⟩ v) Bn 9 (.string ⟨t.toArray⟩) := fun v => (Below.heap_setCell w2 ⟨w1.heap.size, 2, none⟩ v Bn n1).trans hb2
          have hz2 : w1.heap.size < w2.heap.size := (Array.getElem?_eq_some_iff.1 hx2).1
          have HB4 := Lib.hid hB4
          have Hb4 := Lib.hid hb4
          clear hB2 hB3 hB4 hb4 hx2 hb2 hc1 hf1 hcall
          rcases hres with ⟨xs, p, cp, rfl, HA, HRd⟩ | ⟨p, m, cp, rfl, HA⟩
          · obtain ⟨S1, S2⟩ := StepI.of (HB4.out (.slice p xs.length cp)) (Hb4.out (.slice p xs.length cp)) ⟨rest'.toArray⟩
            have hfirst : first t = some (Item.mk true [] xs, rest') := by rw [first_list hcut, HA.out]; rfl
            have hread : ReadsIn ((w2.setCell ⟨w1.heap.size, 2, none⟩ (.slice p xs.length cp)).setCell ⟨Bn, 0, none⟩ (.string ⟨rest'.toArray⟩)) (fun g => wr.heap.size ≤ g ∧ g < ((w2.setCell ⟨w1.heap.size, 2, none⟩ (.slice p xs.length cp)).setCell ⟨Bn, 0, none⟩ (.string ⟨rest'.toArray⟩)).heap.size) (.slice p xs.length cp) xs := by
              have h1 := HB1.out.size
              refine HRd.out.kept (fun g u o hg' hcell => ?_) (fun g hg' => ?_)
              · rw [World.cell?_setCell_other _ _ _ _ (fun e => by cases e; have := hg'.1; simp at this; omega), World.cell?_setCell_other _ _ _ _ (fun e => by cases e; have := hg'.1; simp at this; omega)]
                exact hcell
              · have h2 := hg'.1
                have h3 := hg'.2
                simp at h2
                refine ⟨by omega, ?_⟩
                simp
                exact h3
            obtain ⟨f1, t1, a1, b1, hy1, hR1⟩ := hY pre ((Item.mk true [] xs, .slice p xs.length cp), true) _ _ hJ0 S1 ⟨HR.out.lt HT.out, ⟨p, xs.length, cp, rfl⟩, fun _ => hread⟩
            have HS2 := Lib.hid S2
            have HRs := Lib.hid (HR.out.step HT.out hfirst (.slice p xs.length cp))
            have hlt : rest'.length < t.length := hsh.1
            clear S1 S2 hcut hsh hfirst hread
            simp only [encEl, Item.isList, Item.text] at hy1
            gi_wp2
            refine hR1.mono ?_
            clear hy1
            rintro e W1 (⟨rfl, hJ1, hk1⟩ | ⟨rfl, hx1⟩)
            · have hb2 : Boxed W1 Bn 9 (.string ⟨rest'.toArray⟩) := hk1.trans HS2.out
              have Hb2 := Lib.hid hb2
              clear hb2 hk1
              gi_wp2
              go_roundw
              case rel => exact ⟨_, rest', Hb2.out, hJ1, HRs⟩
              case measure => rw [boxLen_of Hb2.out, boxLen_of HB.out, size_mk, size_mk]; exact hlt
            · gi_wp2
              refine bodyPost_ret (results_none rfl _ _ _) rfl ?_
              exact ⟨⟨_, rfl⟩, .inr ⟨_, fun ⟨q, hq, hq2⟩ => (by have := HRs.out.1 q hq; rw [this] at hq2; cases hq2), hx1⟩⟩
          · obtain ⟨S1, S2⟩ := StepI.of (HB4.out (.slice p m cp)) (Hb4.out (.slice p m cp)) ⟨rest'.toArray⟩
            have hfirst : first t = Option.none := by rw [first_list hcut, HA.out]; rfl
            obtain ⟨f1, t1, a1, b1, hy1, hR1⟩ := hY pre ((Item.mk true [] [], .slice p m cp), false) _ _ hJ0 S1 ⟨HR.out.lt HT.out, ⟨p, m, cp, rfl⟩, fun h => by cases h⟩
            have HF := Lib.hid hfirst
            clear S1 S2 hcut hsh hfirst
            simp only [encEl, Item.isList, Item.text] at hy1
            gi_wp2
            refine hR1.mono ?_
            clear hy1
            rintro e W1 (⟨rfl, hJ1, hk1⟩ | ⟨rfl, hx1⟩)
            · gi_wp2
              refine bodyPost_ret (results_none rfl _ _ _) rfl ?_
              exact ⟨⟨_, rfl⟩, .inl ⟨_, fun h => (by have := h ((Item.mk true [] [], .slice p m cp), false) (by simp); cases this), hJ1⟩⟩
            · gi_wp2
              refine bodyPost_ret (results_none rfl _ _ _) rfl ?_
              exact ⟨⟨_, rfl⟩, .inr ⟨_, fun _ => HR.out.bad HT.out HF.out, hx1⟩⟩
end Go.Proofs.YthicdhnjincflaaGreatDoor
