/- Contract of ssz.Root. -/
import Derived.Test.YtpfmdhcmhcoddaaGreatDoorSszD
namespace Go.Proofs.YtpfmdhcmhcoddaaGreatDoor
open Go.RowKit Go.Shelf Go.Lib
attribute [local go_sem] Oper.semAt_some

theorem levelsB_last (d : Nat) (l : List ByteArray) (z : ByteArray) : ∃ L z', (levelsB d l z).getLast? = some (L, z') ∧ rootB d l z = L.headD z' := by
  induction d generalizing l z with
  | zero => exact ⟨l, z, rfl, rfl⟩
  | succ d ih =>
    obtain ⟨L, z', h1, h2⟩ := ih (levelUp z l) (hash2 z z)
    refine ⟨L, z', ?_, h2⟩
    rw [levelsB, List.getLast?_cons, h1]; rfl
/-- what Root holds between two rounds -/
def RootI (w : World) (gr : Nat) (pre : List Lv) (W : World) : Prop :=
  (∃ s, Boxed W gr 9 (.string s) ∧ ∀ x, pre.getLast? = some x → s = x.2.1.headD x.2.2) ∧ Below w.heap.size w W
theorem RootI.grown {w W W' : World} {gr : Nat} {pre : List Lv} {row : Option Nat} (h : RootI w gr pre W) (hg : W.grownBy W' row) (h1 : ∀ r, row = some r → w.heap.size ≤ r ∧ gr ≠ r) : RootI w gr pre W' := by
  obtain ⟨⟨s, a1, a2⟩, a3⟩ := h
  exact ⟨⟨s, a1.kept hg (fun e => (h1 gr e.symm).2 rfl), a2⟩, a3.grown hg a3.size (fun r e => (h1 r e).1)⟩
theorem RootI.step {w W W' : World} {gr B : Nat} {pre : List Lv} (h : RootI w gr pre W) (hgr : gr < B) (hB : w.heap.size ≤ B) (hs : StepL B W W') : RootI w gr pre W' := by
  obtain ⟨⟨s, a1, a2⟩, a3⟩ := h
  exact ⟨⟨s, (hs.1.block gr hgr).trans a1, a2⟩, a3.trans (hs.1.mono hB)⟩
theorem KeptL.putObj {B : Nat} {W : World} {l : Nat} {o o' : Obj} (hl : B ≤ l) (h : W.heap[l]? = some o) (hc : o.isCells = false) (hk : 4 < B) : KeptL B W (W.putObj l o') := by
  have hg := grownBy_putObj' W l o'
  refine ⟨hg.size, fun k ob _ hk' hcl => ?_, fun hK t ht => ?_⟩
  · have hne : k ≠ l := fun e => by subst e; rw [h] at hk'; cases hk'; rw [hc] at hcl; cases hcl
    exact (hg.block k (Array.getElem?_eq_some_iff.1 hk').1 (fun e => hne (Option.some.inj e))).trans hk'
  · have hlt := World.block_lt_of_cell? W _ (hK t ht)
    exact (World.cell?_of_block (a := ⟨4, t, none⟩) (hg.block _ hlt (fun e => by have := Option.some.inj e; dsimp only at this; omega))).trans (hK t ht)

set_option maxRecDepth 100000 in
set_option maxHeartbeats 6400000 in
theorem sszRoot_any (v : Value) (xs : List ByteArray) (d : Nat) (w : World) (hv : Strs w v xs) (hd : d = 2 ∨ d = 3 ∨ d = 4) (hN : xs.length ≤ 1048576) (hxs : ∀ x ∈ xs, x.size ≤ 1048576) (hK : KTab w) :
    Calls Tryz.prog 115 #[v, .int .i64 d] w fun e w' => e = .returned (if rightB xs d then .tuple #[.string (rootB d xs noughtB), .int .i64 0] else .tuple #[.string ⟨#[]⟩, .int .i64 80]) ∧ Below w.heap.size w w' := by
  have hR := Lib.hid (sright_any xs v d w hv hd (by omega))
  have hV := Lib.hid hv
  have hKw := Lib.hid hK
  have hkw : 4 < w.heap.size := World.block_lt_of_cell? w _ (hK 0 (by omega))
  obtain ⟨p, c, rfl, -⟩ := hv
  cases hrb : rightB xs d with
  | false =>
    have H := hR.out
    rw [hrb] at H
    have HR := Lib.hid H
    clear H hR hK
    go_enter Tryz.func115, Tryz.ntmps115
    go_wp2_with fail
    refine HR.out.mono ?_
    rintro e w1 ⟨rfl, hb1⟩
    go_wp2
    go_ret2
    exact ⟨rfl, hb1⟩
  | true =>
    have H := hR.out
    rw [hrb] at H
    have HR := Lib.hid H
    clear H hR hK
    refine (callsIn_wide (n := 9)).1 ?_
    refine callsIn_of_wp_marks Tryz.func115 rfl trivial ?_ rfl
    simp only [Tryz.ntmps115, List.size_toArray, List.length_cons, List.length_nil, Nat.reduceAdd, Nat.reduceSub, Array.replicate_succ, Array.replicate_zero, List.push_toArray, List.append_toArray, List.nil_append, List.cons_append]
    gi_wp2_with (refine ⟨trivial, ?_⟩; gi_at_call 181; refine (callsIn_wide.2 HR.out).mono ?_)
    rintro e w1 ⟨rfl, hb1⟩
    gi_wp2_with (refine ⟨trivial, ?_⟩; gi_at_call 182; refine (levels_any Fence.wide _ trivial rfl _ _ _ _ _).mono ?_)
    rintro e w2 ⟨rfl, rfl⟩
    gi_wp2
    have hz1 := hb1.size
    obtain ⟨w3, hw3⟩ : ∃ w3, ((w1.alloc (.cells #[.string ⟨#[]⟩] 9)).alloc (.cells #[.slice p xs.length c] 27)).alloc (.cells #[.int .i64 d] 3) = w3 := ⟨_, rfl⟩
    have hsz : w3.heap.size = w1.heap.size + 3 := by rw [← hw3]; simp
    have hx0 : Boxed w3 w1.heap.size 9 (.string ⟨#[]⟩) := by rw [← hw3]; exact ((Boxed.new w1 _ _).alloc _).alloc _
    have hx1 : Boxed w3 (w1.heap.size + 1) 27 (.slice p xs.length c) := by
      rw [← hw3]
      have := Boxed.new (w1.alloc (.cells #[.string ⟨#[]⟩] 9)) 27 (.slice p xs.length c)
      rw [World.size_alloc] at this
      exact this.alloc _
    have hx2 : Boxed w3 (w1.heap.size + 2) 3 (.int .i64 d) := by
      rw [← hw3]
      have := Boxed.new ((w1.alloc (.cells #[.string ⟨#[]⟩] 9)).alloc (.cells #[.slice p xs.length c] 27)) 3 (.int .i64 d)
      rw [World.size_alloc, World.size_alloc] at this
      exact this
    have hb3 : Below w.heap.size w w3 := by rw [← hw3]; exact ((hb1.alloc hz1 _).alloc (by simp; omega) _).alloc (by simp; omega) _
    rw [hw3]
    clear hw3
    have hI0 : RootI w w1.heap.size [] w3 := ⟨⟨_, hx0, fun x h => by cases h⟩, hb3⟩
    refine wpIn_rangeFunc_X rfl (by omega) (gf := 232) (lb := #[.pointer (some ⟨w1.heap.size + 1, 0, none⟩), .pointer (some ⟨w1.heap.size + 2, 0, none⟩)]) rfl trivial (enters_of Tryz.func232 (by kernel_rfl) rfl)
      (encs := encL) (Step := StepL w3.heap.size) (Good := fun _ x _ W1 => Strs W1 x.1 x.2.1 ∧ x.2.1.length ≤ 1048576) (Kp := KeptL w3.heap.size) (S := fun ys => ys.map (·.2) = levelsB d xs noughtB) (Sp := fun _ => True) (w0 := w3)
      (fun l J Jx W hW hJs _ hY h0 => (levels_body _ (by omega) l w3.heap.size (w1.heap.size + 1) (w1.heap.size + 2) _ xs d (by omega) hN hxs J Jx hJs (fun pre x W1 hj hs hl => hY pre x W1 W1 hj (StepL.refl _ _) ⟨hs, hl⟩) W hW.size ((hW.block _ (by omega)).trans hx1) ((hW.block _ (by omega)).trans hx2) (by omega) ((hV.out.below hb3).below hW) ((hKw.out.below hb3).below hW) h0).mono
        (fun e W' ⟨h1, h2⟩ => ⟨h1, h2.imp id (fun ⟨pre, h⟩ => ⟨pre, trivial, h⟩)⟩))
      (fun h k => ⟨Nat.le_trans h.1 k.1, fun i o hb hi hc => k.2.1 i o hb (h.2.1 i o hb hi hc) hc, fun hk => k.2.2 (h.2.2 hk)⟩) (fun W l o o' hl ho hc _ => KeptL.putObj hl ho hc (by omega)) (Below.refl _ _) (fun _ => rfl)
      (fun A B' k o hst hk hA ho => hst.2 k o hk hA ho)
      (RootI w w1.heap.size) (fun _ _ _ => False)
      (fun pre x a' W => a' = { tmps := #[.slice p xs.length c, .int .i64 d, undef, undef, .string ⟨#[]⟩, .int .i64 0, .pointer (some ⟨w1.heap.size, 0, none⟩), x.1, .string x.2.2, .slice p xs.length c, .int .i64 d, .bool true, .bool false, .slice p xs.length c, .int .i64 d, .func (.func 232) #[] #[.pointer (some ⟨w1.heap.size + 1, 0, none⟩), .pointer (some ⟨w1.heap.size + 2, 0, none⟩)], x.1, .string x.2.2, undef, undef, undef, undef], defers := [] } ∧ RootI w w1.heap.size pre W ∧ Strs W x.1 x.2.1 ∧ x.2.1.length ≤ 1048576)
      ?own (fun _ _ _ _ _ h _ _ => h) ?ownx
      (fun pre A B' h hst => h.step (by omega) (by omega) hst) (fun _ _ _ _ h _ => h) hI0 ?assign ?body ?done ?stop
    case own =>
      rintro pre W W' row hi hg hr
      exact hi.grown hg (fun r e => by have := (hr r e).1; omega)
    case ownx =>
      rintro pre x a' _ W W' row ⟨h1, h2, h3, h4⟩ hg hr
      refine ⟨h1, h2.grown hg (fun r e => by have := (hr r e).1; omega), ?_, h4⟩
      obtain ⟨p', c', e1, e2, h⟩ := h3
      refine ⟨p', c', e1, e2, h.imp id ?_⟩
      rintro ⟨bk, o, e3, hk, hc⟩
      refine ⟨bk, o, e3, Nat.lt_of_lt_of_le hk hg.size, fun j y hy => ?_⟩
      have hcj := hc j y hy
      refine (World.cell?_of_block (a := ⟨bk, o + j, none⟩) (hg.block bk hk (fun e => ?_))).trans hcj
      obtain ⟨_, ob, hob, hcl⟩ := hr bk e.symm
      obtain ⟨ob', hob', hcl'⟩ := cells_of_cell hcj
      rw [hob] at hob'; cases hob'; rw [hcl] at hcl'; cases hcl'
    case assign =>
      rintro l pre ⟨xv, L, z⟩ Wa W K hI hst ⟨hg1, hg2⟩ hK'
      have hI2 := hI.step (by omega) (by omega) hst
      simp only [encL]
      gi_wp2
      exact hK' _ _ ((KeepsOthers.refl _).from _) ⟨Nat.le_refl _, fun _ _ _ h _ => h, id⟩ ⟨rfl, hI2, hg1, hg2⟩
    case body =>
      rintro l pre ⟨xv, L, z⟩ a' W hl ⟨r, hr⟩ ⟨rfl, hI, hs, hL⟩
      obtain ⟨⟨s, a1, a2⟩, a3⟩ := hI
      have hT := Lib.hid (at_any xv L z W hs (by dsimp only at hL ⊢; omega))
      have f1 := a1.frozen
      have c1 := a1.cell
      dsimp only
      gi_wp2_with (refine ⟨trivial, ?_⟩; gi_at_call 183; refine (callsIn_wide.2 hT.out).mono ?_)
      have hg := grownBy_setCell' W w1.heap.size (.string (L.head?.getD z))
      refine ⟨KeepsFrom.of_grownBy hg (fun j e => by cases e; omega), ⟨hg.size, fun k o hk ho _ => (hg.block k (Array.getElem?_eq_some_iff.1 ho).1 (fun e => by have := Option.some.inj e; omega)).trans ho, fun hk => hk.belowB ((Below.refl w1.heap.size W).setCell (p := ⟨w1.heap.size, 0, none⟩) (Nat.le_refl _) _) (by omega)⟩, ⟨_, a1.set _, fun x hx => ?_⟩, a3.setCell (p := ⟨w1.heap.size, 0, none⟩) hz1 _⟩
      rw [List.getLast?_append] at hx
      simp at hx
      rw [← hx]
      simp
    case done =>
      rintro D ys W hD hS ⟨⟨s, a1, a2⟩, a3⟩ hK'
      obtain ⟨L, z', hl1, hl2⟩ := levelsB_last d xs noughtB
      have hs : s = rootB d xs noughtB := by
        rw [hl2]
        rw [← hS, List.getLast?_map] at hl1
        cases hy : ys.getLast? with
        | none => rw [hy] at hl1; cases hl1
        | some y =>
          rw [hy] at hl1
          have := a2 y hy
          simp at hl1
          rw [this, hl1]
      subst hs
      have c1 := a1.cell
      gi_wp2
      refine ⟨by simp, .inl ⟨_, _, rfl, run_takeDeferred hK', ?_⟩⟩
      exact ⟨_, results_tmp2 rfl _ _ _, rfl, a3.trans (belowK_b (w := w) (Nat.le_refl _) W D _ _ (by omega) hK' rfl rfl)⟩
    case stop =>
      rintro D c pre W hD _ h
      exact h.elim
end Go.Proofs.YtpfmdhcmhcoddaaGreatDoor
