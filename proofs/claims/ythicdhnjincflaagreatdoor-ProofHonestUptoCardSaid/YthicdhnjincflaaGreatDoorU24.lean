/- What the walks take: NibsE. -/
import Derived.Test.YthicdhnjincflaaGreatDoorU0
import Derived.Test.YthicdhnjincflaaGreatDoorU11
import Derived.Test.YthicdhnjincflaaGreatDoorU21
import Derived.Test.YthicdhnjincflaaGreatDoorU23
import Derived.Outline
namespace Go.Proofs.YthicdhnjincflaaGreatDoor
open Go.RowKit Go.Shelf
attribute [local go_sem] Oper.semAt_some
def mk (pre : List UInt8) : UInt8 := pre.headD 0
def outOf (pre : List UInt8) : List UInt8 := if (mk pre).toNat % 2 = 0 then pre.drop 2 else pre.drop 1
def okPre (pre : List UInt8) : Prop := ∀ z, pre[1]? = some z → (mk pre).toNat % 2 = 0 → z.toNat = 0
def Bx (w : World) (s : ByteArray) (bad : Bool) (mark : UInt8) (v : Value) (i : Nat) (W : World) : Prop :=
  Boxed W w.heap.size 60 v ∧ Boxed W (w.heap.size + 1) 5 (.int .u8 mark.toNat) ∧ Boxed W (w.heap.size + 1 + 1) 4 (.bool bad) ∧
    Boxed W (w.heap.size + 1 + 1 + 1) 3 (.int .i64 i) ∧ Boxed W (w.heap.size + 1 + 1 + 1 + 1) 9 (.string s) ∧ Below w.heap.size w W
def Rd (w : World) (s : ByteArray) (bad : Bool) (mark : UInt8) (out : List UInt8) (i : Nat) (W : World) : Prop :=
  ∃ v, Bx w s bad mark v i W ∧ OwnB 5 (w.heap.size + 5) W v out
theorem Bx.grown {w W W' : World} {s : ByteArray} {bad : Bool} {m : UInt8} {v : Value} {i : Nat} {row : Option Nat} (h : Bx w s bad m v i W) (hg : W.grownBy W' row) (hr : ∀ k, row = some k → w.heap.size + 5 ≤ k) : Bx w s bad m v i W' := by
  obtain ⟨h0, h1, h2, h3, h4, h5⟩ := h
  exact ⟨h0.kept hg (fun e => by have := hr _ e.symm; omega), h1.kept hg (fun e => by have := hr _ e.symm; omega), h2.kept hg (fun e => by have := hr _ e.symm; omega), h3.kept hg (fun e => by have := hr _ e.symm; omega), h4.kept hg (fun e => by have := hr _ e.symm; omega),
    h5.grown hg h5.size (fun k e => by have := hr k e; omega)⟩
theorem OwnB.not_row {e : TypeId} {base : Nat} {W : World} {v : Value} {l : List UInt8} (h : OwnB e base W v l) {row : Option Nat} (hr : ∀ r, row = some r → ∃ o : Obj, W.heap[r]? = some o ∧ o.isCells = false) : v.ownBlock = none ∨ v.ownBlock ≠ row := by
  cases hv : v.ownBlock with
  | none => exact .inl rfl
  | some g =>
    refine .inr (fun e => ?_)
    obtain ⟨o, ho, hc⟩ := hr g e.symm
    obtain ⟨_, ⟨rfl, _⟩ | ⟨g', cap, cur, rfl, _, hg, _⟩⟩ := h
    · cases hv
    · cases hv; rw [hg] at ho; cases ho; cases hc
theorem OwnB.keepsOthers {e : TypeId} {base : Nat} {W W' : World} {v : Value} {l : List UInt8} (h : OwnB e base W v l) (hg : W.grownBy W' v.ownBlock) : KeepsOthers W W' :=
  ⟨hg.size, fun k o hk ho => by
    rw [hg.block k (Array.getElem?_eq_some_iff.1 hk).1 (fun e => by
      obtain ⟨_, ⟨rfl, _⟩ | ⟨g', cap, cur, rfl, _, hgg, _⟩⟩ := h
      · cases e
      · cases e; rw [hgg] at hk; cases hk; cases ho)]
    exact hk⟩
theorem Boxed.not_row' {W : World} {B : Nat} {t : TypeId} {v : Value} (h : Boxed W B t v) {row : Option Nat} (hr : ∀ r, row = some r → ∃ o : Obj, W.heap[r]? = some o ∧ o.isCells = false) : some B ≠ row := by
  intro e
  obtain ⟨o, ho, hc⟩ := hr B e.symm
  rw [show W.heap[B]? = _ from h] at ho; cases ho; cases hc
theorem Rd.own {β : Type} (B : Nat) (w : World) (hB : w.heap.size ≤ B) (s : ByteArray) (bad : β → Bool) (mark : β → UInt8) (out : β → List UInt8) (i : β → Nat) : OwnFrom B (fun b W => Rd w s (bad b) (mark b) (out b) (i b) W) := by
  rintro b W W' row ⟨v, ⟨h0, h1, h2, h3, h4, h5⟩, ho⟩ hg hr
  have hr' : ∀ r, row = some r → ∃ o : Obj, W.heap[r]? = some o ∧ o.isCells = false := fun r e => (hr r e).2
  exact ⟨v, ⟨h0.kept hg (Boxed.not_row' h0 hr'), h1.kept hg (Boxed.not_row' h1 hr'), h2.kept hg (Boxed.not_row' h2 hr'), h3.kept hg (Boxed.not_row' h3 hr'), h4.kept hg (Boxed.not_row' h4 hr'),
    h5.grown hg h5.size (fun k e => Nat.le_trans hB (hr k e).1)⟩, ho.kept hg (ho.not_row hr')⟩
theorem OwnB.other {e : TypeId} {base : Nat} {W : World} {v : Value} {l : List UInt8} (h : OwnB e base W v l) {b : Nat} (hb : b < base) (u : Value) : OwnB e base (W.setCell ⟨b, 0, none⟩ u) v l :=
  h.kept (grownBy_setCell' W b u) (by
    cases hv : v.ownBlock with
    | none => exact .inl rfl
    | some g => exact .inr (fun e => by cases e; have := (h.lt b hv).1; omega))
theorem Rd.mark {w W : World} {s : ByteArray} {bad : Bool} {m : UInt8} {out : List UInt8} {i : Nat} (h : Rd w s bad m out i W) (m' : UInt8) : Rd w s bad m' out i (W.setCell ⟨w.heap.size + 1, 0, none⟩ (.int .u8 m'.toNat)) := by
  obtain ⟨v, ⟨h0, h1, h2, h3, h4, h5⟩, ho⟩ := h
  exact ⟨v, ⟨h0.other (by omega) _, h1.set _, h2.other (by omega) _, h3.other (by omega) _, h4.other (by omega) _, h5.setCell (p := ⟨_, 0, none⟩) (by show w.heap.size ≤ w.heap.size + 1; omega) _⟩, ho.other (by omega) _⟩
theorem Rd.bad {w W : World} {s : ByteArray} {bad : Bool} {m : UInt8} {out : List UInt8} {i : Nat} (h : Rd w s bad m out i W) (bad' : Bool) : Rd w s bad' m out i (W.setCell ⟨w.heap.size + 1 + 1, 0, none⟩ (.bool bad')) := by
  obtain ⟨v, ⟨h0, h1, h2, h3, h4, h5⟩, ho⟩ := h
  exact ⟨v, ⟨h0.other (by omega) _, h1.other (by omega) _, h2.set _, h3.other (by omega) _, h4.other (by omega) _, h5.setCell (p := ⟨_, 0, none⟩) (by show w.heap.size ≤ w.heap.size + 1 + 1; omega) _⟩, ho.other (by omega) _⟩
theorem Rd.count {w W : World} {s : ByteArray} {bad : Bool} {m : UInt8} {out : List UInt8} {i : Nat} (h : Rd w s bad m out i W) (j : Nat) : Rd w s bad m out j (W.setCell ⟨w.heap.size + 1 + 1 + 1, 0, none⟩ (.int .i64 j)) := by
  obtain ⟨v, ⟨h0, h1, h2, h3, h4, h5⟩, ho⟩ := h
  exact ⟨v, ⟨h0.other (by omega) _, h1.other (by omega) _, h2.other (by omega) _, h3.set _, h4.other (by omega) _, h5.setCell (p := ⟨_, 0, none⟩) (by show w.heap.size ≤ w.heap.size + 1 + 1 + 1; omega) _⟩, ho.other (by omega) _⟩
theorem Rd.out {w W : World} {s : ByteArray} {bad : Bool} {m : UInt8} {v v' : Value} {out : List UInt8} {i : Nat} (h : Bx w s bad m v i W) (ho : OwnB 5 (w.heap.size + 5) W v' out) : Rd w s bad m out i (W.setCell ⟨w.heap.size, 0, none⟩ v') := by
  obtain ⟨h0, h1, h2, h3, h4, h5⟩ := h
  exact ⟨v', ⟨h0.set _, h1.other (by omega) _, h2.other (by omega) _, h3.other (by omega) _, h4.other (by omega) _, h5.setCell (p := ⟨_, 0, none⟩) (Nat.le_refl _) _⟩, ho.other (by omega) _⟩
theorem heap_drewN (w : World) (n : Nat) : (w.drewN n).heap = w.heap := by
  induction n generalizing w with
  | zero => rfl
  | succ n ih => exact ih w.drew
theorem sameAt_set {W : World} {B b : Nat} (h : b ≠ B) (u : Value) : SameAt B W (W.setCell ⟨b, 0, none⟩ u) := Below.heap_setCell _ _ _ _ (fun e => h e.symm)
set_option maxRecDepth 100000 in
set_option maxHeartbeats 2000000 in
theorem read_any (s : ByteArray) (w : World) (hs : s.size ≤ 1073741824) :
    Calls Tryz.prog 47 #[.string s] w fun e w' => e = .returned (readV s.data.toList) ∧ Below w.heap.size w w' := by
  have hlen : (halves s.data.toList).length ≤ 2147483648 := by rw [halves_length, len_data]; omega
  refine (callsIn_wide (n := 9)).1 ?_
  refine callsIn_of_wp_marks Tryz.func47 rfl trivial ?_ rfl
  simp only [Tryz.ntmps47, List.size_toArray, List.length_cons, List.length_nil, Nat.reduceAdd, Nat.reduceSub, Array.replicate_succ, Array.replicate_zero, List.push_toArray, List.append_toArray, List.nil_append, List.cons_append]
  gi_wp2
  refine wpIn_scope_straight ?_
  gi_wp2
  refine wpIn_label ?_
  gi_wp2_with (refine ⟨trivial, ?_⟩; gi_at_call 41; refine (halves_any Fence.wide _ trivial rfl s _).mono ?_; rintro e w' ⟨rfl, rfl⟩)
  obtain ⟨W0, hW0⟩ : ∃ W0, (((((w.alloc (.cells #[.slice none 0 0] 60)).alloc (.cells #[.int .u8 0] 5)).alloc (.cells #[.bool s.toList.isEmpty] 4)).alloc (.cells #[.int .i64 0] 3)).alloc (.cells #[.string s] 9)) = W0 := ⟨_, rfl⟩
  have hR0 : Rd w s s.toList.isEmpty 0 [] 0 W0 := by
    rw [← hW0]
    have x0 := Boxed.new w 60 (.slice none 0 0)
    have x1 := Boxed.new (w.alloc (.cells #[.slice none 0 0] 60)) 5 (.int .u8 0)
    have x2 := Boxed.new ((w.alloc (.cells #[.slice none 0 0] 60)).alloc (.cells #[.int .u8 0] 5)) 4 (.bool s.toList.isEmpty)
    have x3 := Boxed.new (((w.alloc (.cells #[.slice none 0 0] 60)).alloc (.cells #[.int .u8 0] 5)).alloc (.cells #[.bool s.toList.isEmpty] 4)) 3 (.int .i64 0)
    have x4 := Boxed.new ((((w.alloc (.cells #[.slice none 0 0] 60)).alloc (.cells #[.int .u8 0] 5)).alloc (.cells #[.bool s.toList.isEmpty] 4)).alloc (.cells #[.int .i64 0] 3)) 9 (.string s)
    simp only [World.size_alloc] at x1 x2 x3 x4
    exact ⟨_, ⟨(((x0.alloc _).alloc _).alloc _).alloc _, ((x1.alloc _).alloc _).alloc _, (x2.alloc _).alloc _, x3.alloc _, x4,
      (((((Below.refl _ w).alloc (Nat.le_refl _) _).alloc (by simp) _).alloc (by simp; omega) _).alloc (by simp; omega) _).alloc (by simp; omega) _⟩, OwnB.nil _ _ _⟩
  have hbox : W0.cell? ⟨w.heap.size + 1 + 1 + 1 + 1, 0, none⟩ = some (.string s) := by
    obtain ⟨v, ⟨_, _, _, _, h4, _⟩, _⟩ := hR0
    exact h4.cell
  have hs0 : W0.heap.size = w.heap.size + 5 := by rw [← hW0]; simp
  rw [hW0]
  clear hW0
  have hS0 : w.heap.size + 5 ≤ W0.heap.size := by omega
  have Hs0 := Lib.hid hs0
  clear hs0
  refine wpIn_rangeFunc_ownG rfl (by omega) (gf := 74) (lb := #[.pointer (some ⟨w.heap.size + 1 + 1 + 1 + 1, 0, none⟩)]) rfl trivial (enters_of Tryz.func74 (by kernel_rfl) rfl)
    (halves_stops Fence.wide _ trivial rfl (by omega) (w.heap.size + 1 + 1 + 1 + 1) s (by omega) _ (by omega) hbox) sameAt_t (sameAt_b (by omega)) (Below.refl _ _) (fun _ => rfl)
    (fun pre W => okPre pre ∧ Rd w s s.toList.isEmpty (mk pre) (outOf pre) pre.length W)
    (fun c pre W => c = .exit 0 ∧ ¬ okPre pre ∧ ∃ o, Rd w s true (mk pre) o 1 W)
    (OwnFrom.and (ownFrom_pure _ _) (Rd.own W0.heap.size w (by omega) s _ mk outOf List.length))
    (fun c => OwnFrom.and (ownFrom_pure _ _) (OwnFrom.and (ownFrom_pure _ _) (fun b W W' row hs hg hr => by
      obtain ⟨o, ho⟩ := hs
      exact ⟨o, Rd.own W0.heap.size w (by omega) s (fun _ => true) (fun _ : List UInt8 => mk b) (fun _ => o) (fun _ => 1) b W W' row ho hg hr⟩)))
    ⟨by intro z hz; simp at hz, by simpa [mk, outOf] using hR0⟩
    (fun x => { tmps := #[.string s, undef, .string ⟨#[]⟩, .bool false, .int .i64 0, .pointer (some ⟨w.heap.size, 0, none⟩), .pointer (some ⟨w.heap.size + 1, 0, none⟩), .pointer (some ⟨w.heap.size + 1 + 1, 0, none⟩), .pointer (some ⟨w.heap.size + 1 + 1 + 1, 0, none⟩), .int .u8 x.toNat, .string s,
      .bool s.toList.isEmpty, .string s, .func (.func 74) #[] #[.pointer (some ⟨w.heap.size + 1 + 1 + 1 + 1, 0, none⟩)], .int .u8 x.toNat,
      undef, undef, undef, undef, undef, undef, undef, undef, undef, undef, undef, undef, undef, undef, undef, undef, undef, undef, undef, undef, undef, undef, undef, undef, undef, undef, undef, undef, undef], defers := [] }) ?assign ?body ?done ?stop
  case assign =>
    intro l x W K hK
    gi_wp2
    exact hK
  case body =>
    rintro l pre x W ⟨hok, hR⟩ hlt
    have hN : 0 < (halves s.data.toList).length := by omega
    obtain ⟨v, hX, ho⟩ := id hR
    obtain ⟨b0, b1, b2, b3, b4, bB⟩ := id hX
    have c0 := b0.cell
    have c1 := b1.cell
    have c2 := b2.cell
    have c3 := b3.cell
    have f0 := b0.frozen
    have f1 := b1.frozen
    have f2 := b2.frozen
    have f3 := b3.frozen
    have hz := bB.size
    have HR := Lib.hid hR
    have HX := Lib.hid hX
    clear hR hX b0 b1 b2 b3 b4
    match pre, hok with
    | [], hok =>
      clear f0 c0 c2 f2 ho
      gi_wp2
      have hR2 := (HR.out.mark x).count 1
      refine ⟨((KeepsOthers.setCell _ _ _).trans (KeepsOthers.setCell _ _ _)).from _, sameAt_t (sameAt_set (by omega) _) (sameAt_set (by omega) _), by intro z hz; simp at hz, ?_⟩
      have eo : outOf ([] ++ [x]) = outOf [] := by simp [outOf]
      rw [eo]
      exact hR2
    | [m], hok =>
      by_cases hm : m.toNat % 2 = 0
      · have hm' : (((mk [m]).toNat : Int) % 2 == 0) = true := by show ((m.toNat : Int) % 2 == 0) = true; simp; omega
        by_cases hx : x.toNat = 0
        · have hx' : ((x.toNat : Int) != 0) = false := by simp [hx]
          have Hx := Lib.hid hx
          have Hm := Lib.hid hm
          clear f0 c0 c2 f2 ho f1 hx hm
          gi_wp2
          have hR2 := HR.out.count 2
          refine ⟨(KeepsOthers.setCell _ _ _).from _, sameAt_set (by omega) _, by intro z hz _; simp at hz; subst hz; exact Hx.out, ?_⟩
          have eo : outOf ([m] ++ [x]) = outOf [m] := by simp [outOf, mk, Hm.out]
          rw [eo]
          exact hR2
        · have hx' : ((x.toNat : Int) != 0) = true := by simp; omega
          have Hx := Lib.hid hx
          have Hm := Lib.hid hm
          clear f0 c0 ho f1 hx hm
          gi_wp2
          have hR2 := HR.out.bad true
          refine ⟨(KeepsOthers.setCell _ _ _).from _, rfl, fun hok2 => Hx.out (hok2 x rfl Hm.out), outOf [m], ?_⟩
          exact hR2
      · have hm' : (((mk [m]).toNat : Int) % 2 == 0) = false := by show ((m.toNat : Int) % 2 == 0) = false; simp; omega
        have Hm := Lib.hid hm
        clear hm
        have hol : (outOf [m]).length = 0 := by simp [outOf, mk, Hm.out]
        have Hol := Lib.hid hol
        clear hol
        have o1 := (ho.alloc (.cells #[.int .u8 x.toNat] 5))
        have hb0 : w.heap.size + 5 ≤ (W.alloc (.cells #[.int .u8 x.toNat] 5)).heap.size := by have := HX.out.2.2.2.2.1.lt; simp; omega
        have hn1 := cells_new W (Lib.byteCells [x]) 5
        have Hn1 := Lib.hid hn1
        clear hn1 c2 f2 f1
        gi_wp2_with (gi_at_builtin; refine wpListIn_appendB rfl _ _ 60 rfl (w.heap.size + 5) 5 Tryz.underlying60 infoByte' _ _ rfl o1 ⟨W.heap.size, 0, none⟩ 1 1 [x] rfl rfl Hn1.out ?l1 hb0 ?_)
        case l1 => have := Hol.out; omega
        intro v' w1 ho1 hg1
        have hX0 : Bx w s s.toList.isEmpty _ v _ (W.alloc (.cells #[.int .u8 x.toNat] 5)) := Bx.grown HX.out (World.grownBy_alloc W _ none) (fun k e => by cases e)
        have hX1 := hX0.grown hg1 (fun k e => (ho.lt k e).1)
        have hk1 : KeepsOthers W w1 := (KeepsOthers.alloc W _).trans (o1.keepsOthers hg1)
        have hsame : SameAt (w.heap.size + 1 + 1 + 1 + 1) W w1 := by
          have e1 := hX1.2.2.2.2.1
          have e2 := HX.out.2.2.2.2.1
          exact (show w1.heap[_]? = _ from e1).trans (show W.heap[_]? = _ from e2).symm
        have HX1 := Lib.hid hX1
        obtain ⟨d0, d1, d2, d3, d4, dB⟩ := id hX1
        have c0' := d0.cell
        have f0' := d0.frozen
        have c3' := d3.cell
        have f3' := d3.frozen
        obtain ⟨p', c', rfl⟩ := ho1.form
        have HO := Lib.hid ho1
        clear hX0 hX1 d0 d1 d2 d3 d4 c0 f0 c1 c3 f3 o1 ho1 hg1 Hn1
        gi_wp2
        have hR2 := (Rd.out HX1.out HO.out).count (2)
        rw [List.length_append] at hR2
        refine ⟨(hk1.trans ((KeepsOthers.setCell _ _ _).trans (KeepsOthers.setCell _ _ _))).from _, sameAt_t hsame (sameAt_t (sameAt_set (by omega) _) (sameAt_set (by omega) _)), by intro z _ hz2; exact absurd hz2 Hm.out, ?_⟩
        have eo : outOf ([m] ++ [x]) = outOf [m] ++ [x] := by simp [outOf, mk, Hm.out]
        rw [eo]
        exact hR2
    | m :: z :: r, hok =>
      obtain ⟨j, hj⟩ : ∃ j, (m :: z :: r).length = j := ⟨_, rfl⟩
      have hj2 : 2 ≤ j := by rw [← hj]; simp
      have e0 : ((j : Int) == 0) = false := by simp; omega
      have e1 : ((j : Int) == 1) = false := by simp; omega
      rw [hj] at c3 HR HX hlt
      have hol : (outOf (m :: z :: r)).length ≤ j := by
        have : (m :: z :: r).length = r.length + 2 := rfl
        unfold outOf
        split
        · simp; omega
        · simp; omega
      have Hol := Lib.hid hol
      have Hj := Lib.hid hj
      clear hol hj
      have o1 := (ho.alloc (.cells #[.int .u8 x.toNat] 5))
      have hb0 : w.heap.size + 5 ≤ (W.alloc (.cells #[.int .u8 x.toNat] 5)).heap.size := by have := HX.out.2.2.2.2.1.lt; simp; omega
      have hn1 := cells_new W (Lib.byteCells [x]) 5
      have Hn1 := Lib.hid hn1
      clear hn1 c2 f2 f1
      gi_wp2_with (gi_at_builtin; refine wpListIn_appendB rfl _ _ 60 rfl (w.heap.size + 5) 5 Tryz.underlying60 infoByte' _ _ rfl o1 ⟨W.heap.size, 0, none⟩ 1 1 [x] rfl rfl Hn1.out ?l1 hb0 ?_)
      case l1 => have := Hol.out; omega
      intro v' w1 ho1 hg1
      have hX0 : Bx w s s.toList.isEmpty _ v _ (W.alloc (.cells #[.int .u8 x.toNat] 5)) := Bx.grown HX.out (World.grownBy_alloc W _ none) (fun k e => by cases e)
      have hX1 := hX0.grown hg1 (fun k e => (ho.lt k e).1)
      have hk1 : KeepsOthers W w1 := (KeepsOthers.alloc W _).trans (o1.keepsOthers hg1)
      have hsame : SameAt (w.heap.size + 1 + 1 + 1 + 1) W w1 := by
        have e1 := hX1.2.2.2.2.1
        have e2 := HX.out.2.2.2.2.1
        exact (show w1.heap[_]? = _ from e1).trans (show W.heap[_]? = _ from e2).symm
      have HX1 := Lib.hid hX1
      obtain ⟨d0, d1, d2, d3, d4, dB⟩ := id hX1
      have c0' := d0.cell
      have f0' := d0.frozen
      have c3' := d3.cell
      have f3' := d3.frozen
      obtain ⟨p', c', rfl⟩ := ho1.form
      have HO := Lib.hid ho1
      clear hX0 hX1 d0 d1 d2 d3 d4 c0 f0 c1 c3 f3 o1 ho1 hg1 Hn1
      gi_wp2
      have hR2 := (Rd.out HX1.out HO.out).count (j + 1)
      rw [List.length_append] at hR2
      refine ⟨(hk1.trans ((KeepsOthers.setCell _ _ _).trans (KeepsOthers.setCell _ _ _))).from _, sameAt_t hsame (sameAt_t (sameAt_set (by omega) _) (sameAt_set (by omega) _)), by intro y hy hz2; exact hok y hy hz2, ?_⟩
      have eo : outOf (m :: z :: r ++ [x]) = outOf (m :: z :: r) ++ [x] := by
        unfold outOf
        show (if (mk (m :: z :: r)).toNat % 2 = 0 then _ else _) = _
        split
        · simp
        · simp
      have el : (m :: z :: r ++ [x]).length = j + 1 := by rw [List.length_append, Hj.out]; rfl
      rw [eo, el]
      exact hR2
  case done =>
    rintro D ys W hD rfl ⟨hok, hR⟩ hK
    obtain ⟨v, hX, ho⟩ := id hR
    obtain ⟨b0, b1, b2, b3, b4, bB⟩ := id hX
    have c0 := b0.cell
    have c1 := b1.cell
    have c2 := b2.cell
    have hc := fun n => (OwnB.drewN ho n).str (P := Tryz.prog) Tryz.underlying60 Tryz.underlying5 Tryz.underlying9
    have hDB := Lib.hid (show w.heap.size ≤ D by omega)
    have HR := Lib.hid hR
    clear hR hX b0 b1 b2 b3 b4 ho hD
    have fin : ∀ W', W'.heap[D]? = some (.deferred (some [])) → Below w.heap.size w W' → Below w.heap.size w (W'.putObj D (.deferred none)) := fun W' h1 h2 => h2.trans (belowK_b (w := w) (Nat.le_refl _) W' D _ _ hDB.out h1 rfl rfl)
    have Fin := Lib.hid fin
    clear fin
    by_cases h0 : s.size = 0
    · have he : s.toList.isEmpty = true := by
        have : s.data.toList = [] := List.length_eq_zero_iff.1 h0
        rw [Lib.toList_data, this]; rfl
      have hr := readV_of (read_nil (l := s.data.toList) (by rw [List.length_eq_zero_iff.1 (show s.data.toList.length = 0 from h0)]; rfl))
      have Hr := Lib.hid hr
      clear hr h0
      gi_wp2
      refine ⟨by simp, .inl ⟨_, _, rfl, run_takeDeferred hK, ?_⟩⟩
      exact ⟨_, results_tmp3 rfl _ _ _, by rw [Hr.out]; rfl, Fin.out _ hK bB⟩
    · have he : s.toList.isEmpty = false := by
        have : s.data.toList ≠ [] := fun h => h0 (List.length_eq_zero_iff.2 h)
        rw [Lib.toList_data, List.isEmpty_eq_false_iff]; exact this
      match hh : halves s.data.toList with
      | [] => exfalso; have := halves_length s.data.toList; rw [hh, len_data] at this; simp only [List.length_nil] at this; omega
      | [a] => exfalso; have := halves_length s.data.toList; rw [hh, len_data] at this; simp only [List.length_cons, List.length_nil] at this; omega
      | m :: z :: r =>
        rw [hh] at c1 hc hok
        have hz := hok z rfl
        have emk : mk (m :: z :: r) = m := rfl
        rw [emk] at c1 hz
        have hr0 : read s.data.toList = if m.toNat > 3 ∨ (m.toNat % 2 = 0 ∧ z ≠ 0) then ([], false, 50) else if m.toNat % 2 = 0 then (r, decide (m.toNat = 2), 0) else (z :: r, decide (m.toNat = 3), 0) := by unfold read; rw [hh]
        by_cases hm3 : 3 < m.toNat
        · have hm3' : (3 : Int) < (m.toNat : Int) := by omega
          have hr := readV_of (hr0.trans (if_pos (.inl hm3)))
          have Hr := Lib.hid hr
          clear hr hr0 h0 hz hok hm3
          gi_wp2
          refine ⟨by simp, .inl ⟨_, _, rfl, run_takeDeferred hK, ?_⟩⟩
          exact ⟨_, results_tmp3 rfl _ _ _, by rw [Hr.out]; rfl, Fin.out _ hK bB⟩
        · have hm3' : ¬ (3 : Int) < (m.toNat : Int) := by omega
          have hr : readV s.data.toList = .tuple #[.string ⟨(outOf (m :: z :: r)).toArray⟩, .bool (decide (2 ≤ (m.toNat : Int))), .int .i64 0] := by
            have hz0 : ¬ (m.toNat > 3 ∨ (m.toNat % 2 = 0 ∧ z ≠ 0)) := by
              rintro (h | ⟨h1, h2⟩)
              · exact hm3 h
              · exact h2 (UInt8.toNat_inj.1 (hz h1))
            rw [if_neg hz0] at hr0
            by_cases h2 : m.toNat % 2 = 0
            · rw [if_pos h2] at hr0
              rw [readV_of hr0]
              have e1 : outOf (m :: z :: r) = r := by unfold outOf; rw [emk, if_pos h2]; rfl
              have e2 : decide (m.toNat = 2) = decide (2 ≤ (m.toNat : Int)) := by rw [Bool.eq_iff_iff]; simp; omega
              rw [e1, e2]
            · rw [if_neg h2] at hr0
              rw [readV_of hr0]
              have e1 : outOf (m :: z :: r) = z :: r := by unfold outOf; rw [emk, if_neg h2]; rfl
              have e2 : decide (m.toNat = 3) = decide (2 ≤ (m.toNat : Int)) := by rw [Bool.eq_iff_iff]; simp; omega
              rw [e1, e2]
          have Hr := Lib.hid hr
          clear hr hr0 h0 hz hok hm3
          gi_wp2
          refine wpIn_wide.2 ?_
          go_quiet (fail)
          gi_wp2
          have hK' : (W.drewN nq).heap[D]? = some (.deferred (some [])) := by rw [heap_drewN]; exact hK
          refine ⟨by simp, .inl ⟨_, _, rfl, run_takeDeferred hK', ?_⟩⟩
          exact ⟨_, results_tmp3 rfl _ _ _, by rw [Hr.out]; rfl, Fin.out _ hK' (Below.drewN bB _)⟩
  case stop =>
    rintro D c pre W hD ⟨r, hr⟩ ⟨rfl, hno, o, hR⟩ hK
    obtain ⟨v, hX, ho⟩ := id hR
    obtain ⟨b0, b1, b2, b3, b4, bB⟩ := id hX
    have c2 := b2.cell
    have fin : Below w.heap.size w (W.putObj D (.deferred none)) := bB.trans (belowK_b (w := w) (Nat.le_refl _) W D _ _ (by omega) hK rfl rfl)
    have hrd : readV s.data.toList = .tuple #[.string ⟨#[]⟩, .bool false, .int .i64 50] := by
      refine readV_of ?_
      match pre, hno with
      | [], hno => exact absurd (fun z hz => by simp at hz) hno
      | [m], hno => exact absurd (fun z hz => by simp at hz) hno
      | m :: z :: q, hno =>
        unfold read
        rw [← hr]
        have h1 : m.toNat % 2 = 0 ∧ z ≠ 0 := by
          by_cases h2 : m.toNat % 2 = 0
          · refine ⟨h2, fun hz => hno (fun y hy _ => ?_)⟩
            simp at hy
            subst hy
            rw [hz]; rfl
          · exact absurd (fun y _ h3 => absurd h3 h2) hno
        exact if_pos (.inr h1)
    have Hr := Lib.hid hrd
    clear hrd hr hR hX b0 b1 b2 b3 b4 ho
    gi_wp2
    refine ⟨by simp, .inl ⟨_, _, rfl, run_takeDeferred hK, ?_⟩⟩
    exact ⟨_, results_tmp3 rfl _ _ _, by rw [Hr.out]; rfl, fin⟩
end Go.Proofs.YthicdhnjincflaaGreatDoor
