/- What the walks take: NibsC. -/
import Derived.Test.YthicdhnjincflaaGreatDoorU0
import Derived.Test.YthicdhnjincflaaGreatDoorU7
import Derived.Test.YthicdhnjincflaaGreatDoorU21
import Derived.Test.YthicdhnjincflaaGreatDoorShelf
import Derived.RangeFuncNested
import Derived.RangeFuncBound
import Derived.RangeFuncCalls
import Derived.RangeFuncLeaves
import Derived.OwnWalkIn
import Derived.TacticsInMore
import Derived.LoopNIn
import Derived.LoopIn
namespace Go.Proofs.YthicdhnjincflaaGreatDoor
open Go.RowKit Go.Shelf
attribute [local go_sem] Oper.semAt_some
theorem IsBuf.kept {B b : Nat} {l : List UInt8} {w w' : World} {row : Option Nat} (h : IsBuf B b l w) (hg : w.grownBy w' row) (hr : ∀ r, row = some r → ∃ o : Obj, w.heap[r]? = some o ∧ o.isCells = false) : IsBuf B b l w' := by
  have key : ∀ {p : Value}, Lib.BuilderAtF 83 5 B b p (Lib.byteCells l) w → Lib.BuilderAtF 83 5 B b p (Lib.byteCells l) w' := by
    rintro p ⟨hB, v, hb, hown, hne⟩
    refine ⟨hB, v, ?_, ?_, hne⟩
    · rw [hg.block b (Array.getElem?_eq_some_iff.1 hb).1 (fun e => by obtain ⟨o, ho, hc⟩ := hr b e.symm; rw [hb] at ho; cases ho; cases hc)]
      exact hb
    · refine hown.kept hg ?_
      cases hv : v.ownBlock with
      | none => exact .inl rfl
      | some g =>
        refine .inr (fun e => ?_)
        obtain ⟨o, ho, hc⟩ := hr g e.symm
        obtain ⟨c, fz, hk⟩ := Lib.ownsRowF_kind hown g hv
        rw [hk] at ho; cases ho; cases hc
  rcases h with h | h
  · exact .inl (key h)
  · exact .inr (key h)
theorem IsBuf.own {β : Type} (B b : Nat) (f : β → List UInt8) : Own (fun s W => IsBuf B b (f s) W) := fun _ _ _ _ hs hg hr => hs.kept hg hr
theorem IsBuf.fresh (B : Nat) (w : World) (hB : B ≤ w.heap.size) : IsBuf B w.heap.size [] (w.alloc (.cells #[.pointer none, .slice none 0 0] 83)) :=
  .inl ⟨hB, .slice none 0 0, World.alloc_heap_new w _, World.ownsRowF_nil _ _ _ _, by simp [Value.ownBlock]⟩
theorem IsBuf.alloc {B b : Nat} {l : List UInt8} {w : World} (h : IsBuf B b l w) (o : Obj) : IsBuf B b l (w.alloc o) := Lib.IsBuilderF.alloc h o
theorem IsBuf.cells {B b : Nat} {l : List UInt8} {w : World} (h : IsBuf B b l w) : ∃ c t f, w.heap[b]? = some (.cells c t f) := by
  rcases h with ⟨_, v, hb, _⟩ | ⟨_, v, hb, _⟩
  · exact ⟨_, _, _, hb⟩
  · exact ⟨_, _, _, hb⟩
def SameAt (B : Nat) (W W' : World) : Prop := W'.heap[B]? = W.heap[B]?
theorem sameAt_t {B : Nat} {X Y Z : World} (h : SameAt B X Y) (k : SameAt B Y Z) : SameAt B X Z := k.trans h
theorem sameAt_b {w : World} {B : Nat} (hB : B < w.heap.size) (W : World) (l : Nat) (o o' : Obj) (hl : w.heap.size ≤ l) (_ : W.heap[l]? = some o) (_ : o.isCells = false) (_ : o.isWalk = false) : SameAt B W (W.putObj l o') :=
  World.putObj_heap_other (by omega)
theorem SameAt.cell {B : Nat} {W W' : World} (h : SameAt B W W') (i : Nat) : W'.cell? ⟨B, i, none⟩ = W.cell? ⟨B, i, none⟩ := World.cell?_of_block (w := W) h
theorem keepsOthers_of {b : Nat} {w w' : World} (h : Lib.OthersKept 5 (some b) w w') (hb : ∃ c t f, w.heap[b]? = some (.cells c t f)) (hs : w.heap.size ≤ w'.heap.size) : KeepsOthers w w' :=
  ⟨hs, fun k o hk ho => h k o hk (fun e => by cases e; obtain ⟨c, t, f, hb⟩ := hb; rw [hb] at hk; cases hk; cases ho) (fun c fz e => by subst e; cases ho)⟩
set_option maxRecDepth 100000 in
set_option maxHeartbeats 1000000 in
theorem halves_body (F : Fence) (n : Nat) (hf : F.fn 74) (hro : F.round = none) (hn : 1 ≤ n) (l Bn : Nat) (s : ByteArray) (hs : s.size ≤ 4294967296) (J Jx : List UInt8 → World → Prop)
    (hY : ∀ pre (x : UInt8) W, J pre W → pre.length < (halves s.data.toList).length → YieldAt F (n - 1) Tryz.prog l #[.int .u8 x.toNat] W fun e W' =>
      (e = .returned (.bool true) ∧ J (pre ++ [x]) W' ∧ SameAt Bn W W') ∨ (e = .returned (.bool false) ∧ Jx (pre ++ [x]) W'))
    (W : World) (hcell : W.cell? ⟨Bn, 0, none⟩ = some (.string s)) (h0 : J [] W) :
    CallsIn F n Tryz.prog 74 #[.func (.yield l) #[] #[], .pointer (some ⟨Bn, 0, none⟩)] W fun e W' => (∃ v, e = .returned v) ∧
      ((∃ ys, ys = halves s.data.toList ∧ J ys W') ∨ (∃ pre, pre <+: halves s.data.toList ∧ Jx pre W')) := by
  refine callsIn_of_wp Tryz.func74 rfl hf ?_ hro
  simp only [Tryz.ntmps74, List.size_toArray, List.length_cons, List.length_nil, Nat.reduceAdd, Nat.reduceSub, Array.replicate_succ, Array.replicate_zero, List.push_toArray, List.append_toArray, List.nil_append, List.cons_append]
  gi_wp2
  gi_loopw [3, 6] (fun _ i wr => ∃ k : Nat, k ≤ s.size ∧ i = .int .i64 k ∧ wr.cell? ⟨Bn, 0, none⟩ = some (.string s) ∧ J (halves (s.data.toList.take k)) wr) (fun _ i _ => s.size - (intOf i).toNat)
  case atStart => exact ⟨0, by omega, rfl, hcell, by simpa [halves] using h0⟩
  case round =>
    obtain ⟨k, hk, rfl, hc, hJ⟩ := hrel
    have g1 : (0 : Int) ≤ k := by omega
    by_cases hlt : k < s.size
    · have e1 := u8_hi s[k]
      have e2 := u8_lo s[k]
      have hpre : halves (s.data.toList.take (k + 1)) = halves (s.data.toList.take k) ++ [hiN s[k]] ++ [loN s[k]] := by
        rw [take_snoc s k hlt, halves_append, halves_one]; simp
      have hall : halves s.data.toList = halves (s.data.toList.take (k + 1)) ++ halves (s.data.toList.drop (k + 1)) := by rw [← halves_append, List.take_append_drop]
      rw [hpre] at hall
      have hlen : (halves (s.data.toList.take k)).length + 2 ≤ (halves s.data.toList).length := by rw [hall]; simp
      have Hpre := Lib.hid hpre
      have Hall := Lib.hid hall
      clear hpre hall
      obtain ⟨f1, t1, a1, b1, hy1, hR1⟩ := hY _ (hiN s[k]) wr hJ (by omega)
      gi_wp2
      refine hR1.mono ?_
      rintro e W1 (⟨rfl, hJ1, hk1⟩ | ⟨rfl, hx1⟩)
      · have hc1 : W1.cell? ⟨Bn, 0, none⟩ = some (.string s) := (hk1.cell 0).trans hc
        obtain ⟨f2, t2, a2, b2, hy2, hR2⟩ := hY _ (loN s[k]) W1 hJ1 (by rw [List.length_append]; show _ + 1 < _; omega)
        clear hc hy1 hR1
        gi_wp2
        refine hR2.mono ?_
        rintro e W2 (⟨rfl, hJ2, hk2⟩ | ⟨rfl, hx2⟩)
        · have hc2 : W2.cell? ⟨Bn, 0, none⟩ = some (.string s) := (hk2.cell 0).trans hc1
          gi_wp2
          go_roundw
          case rel => exact ⟨k + 1, by omega, by go_num, hc2, by rw [Hpre.out]; exact hJ2⟩
          case measure => simp [intOf]; omega
        · gi_wp2
          refine bodyPost_ret (results_none rfl _ _ _) rfl ?_
          exact ⟨⟨_, rfl⟩, .inr ⟨_, ⟨_, by rw [Hall.out]⟩, hx2⟩⟩
      · gi_wp2
        refine ⟨(fun f hf => by cases hf), ?_⟩
        gi_wp2
        refine bodyPost_ret (results_none rfl _ _ _) rfl ?_
        exact ⟨⟨_, rfl⟩, .inr ⟨_, ⟨loN s[k] :: halves (s.data.toList.drop (k + 1)), by rw [Hall.out]; simp⟩, hx1⟩⟩
    · gi_wp2
      go_end0
      exact ⟨⟨_, rfl⟩, .inl ⟨_, rfl, by rw [take_all s k (by omega)] at hJ; exact hJ⟩⟩
theorem halves_any (F : Fence) (n : Nat) (hf : F.fn 41) (hro : F.round = none) (s : ByteArray) (w : World) :
    CallsIn F n Tryz.prog 41 #[.string s] w fun e w' => e = .returned (.func (.func 74) #[] #[.pointer (some ⟨w.heap.size, 0, none⟩)]) ∧ w' = w.alloc (.cells #[.string s] 9) := by
  refine callsIn_of_wp Tryz.func41 rfl hf ?_ hro
  simp only [Tryz.ntmps41, List.size_toArray, List.length_cons, List.length_nil, Nat.reduceAdd, Nat.reduceSub, Array.replicate_succ, Array.replicate_zero, List.push_toArray, List.append_toArray, List.nil_append, List.cons_append]
  gi_wp2
  go_ret
  exact ⟨rfl, rfl⟩
theorem halves_stops (F : Fence) (n : Nat) (hf : F.fn 74) (hro : F.round = none) (hn : 1 ≤ n) (Bn : Nat) (s : ByteArray) (hs : s.size ≤ 4294967296) (w : World) (hBn : Bn < w.heap.size)
    (hc : w.cell? ⟨Bn, 0, none⟩ = some (.string s)) :
    SeqStopsK F n Tryz.prog 74 #[.pointer (some ⟨Bn, 0, none⟩)] (fun x : UInt8 => #[Value.int .u8 x.toNat]) (SameAt Bn) (fun ys => ys = halves s.data.toList) (fun pre => pre <+: halves s.data.toList) (halves s.data.toList).length w := fun l J Jx W hW _ _ hY h0 =>
  halves_body F n hf hro hn l Bn s hs J Jx hY W ((hW.cell (p := ⟨Bn, 0, none⟩) hBn).trans hc) h0
set_option maxRecDepth 100000 in
set_option maxHeartbeats 2000000 in
theorem of_any (s : ByteArray) (w : World) (hs : s.size ≤ 1073741824) :
    Calls Tryz.prog 23 #[.string s] w fun e w' => e = .returned (.string ⟨(halves s.data.toList).toArray⟩) ∧ Below w.heap.size w w' := by
  have hlen : (halves s.data.toList).length ≤ 2147483648 := by rw [halves_length, len_data]; omega
  refine (callsIn_wide (n := 9)).1 ?_
  refine callsIn_of_wp_marks Tryz.func23 rfl trivial ?_ rfl
  simp only [Tryz.ntmps23, List.size_toArray, List.length_cons, List.length_nil, Nat.reduceAdd, Nat.reduceSub, Array.replicate_succ, Array.replicate_zero, List.push_toArray, List.append_toArray, List.nil_append, List.cons_append]
  gi_wp2_with (refine ⟨trivial, ?_⟩; gi_at_call 41; refine (halves_any Fence.wide _ trivial rfl s _).mono ?_; rintro e w' ⟨rfl, rfl⟩)
  have hbuf : IsBuf w.heap.size w.heap.size [] ((w.alloc (.cells #[.pointer none, .slice none 0 0] 83)).alloc (.cells #[.string s] 9)) := (IsBuf.fresh w.heap.size w (Nat.le_refl _)).alloc _
  have hbox : ((w.alloc (.cells #[.pointer none, .slice none 0 0] 83)).alloc (.cells #[.string s] 9)).heap[w.heap.size + 1]? = some (.cells #[.string s] 9) := by
    have := World.alloc_heap_new (w.alloc (.cells #[.pointer none, .slice none 0 0] 83)) (.cells #[.string s] 9)
    rwa [World.size_alloc] at this
  have hB0 : Below w.heap.size w ((w.alloc (.cells #[.pointer none, .slice none 0 0] 83)).alloc (.cells #[.string s] 9)) := ((Below.refl _ w).alloc (Nat.le_refl _) _).alloc (by simp) _
  refine wpIn_rangeFunc_ownG rfl (by omega) (gf := 74) (lb := #[.pointer (some ⟨w.heap.size + 1, 0, none⟩)]) rfl trivial (enters_of Tryz.func74 (by kernel_rfl) rfl)
    (halves_stops Fence.wide _ trivial rfl (by omega) (w.heap.size + 1) s (by omega) _ (by simp) (by rw [World.cell?, hbox]; rfl)) sameAt_t (sameAt_b (by simp)) (Below.refl _ _) (fun _ => rfl)
    (fun pre W => IsBuf w.heap.size w.heap.size pre W ∧ W.heap[w.heap.size + 1]? = some (.cells #[.string s] 9) ∧ Below w.heap.size w W)
    (fun _ _ _ => False)
    (OwnFrom.and (Own.from (IsBuf.own _ _ _) _) (OwnFrom.and (fun _ _ _ _ hs hg hr => by
      rw [hg.block _ (Array.getElem?_eq_some_iff.1 hs).1 (fun e => by obtain ⟨_, o, ho, hc⟩ := hr _ e.symm; rw [hs] at ho; cases ho; cases hc)]
      exact hs) (ownFrom_below (Nat.le_refl _) (by simp; omega))))
    (fun _ _ _ _ _ hs _ _ => hs)
    ⟨hbuf, hbox, hB0⟩
    (fun x => { tmps := #[.string s, undef, .string ⟨#[]⟩, .pointer (some ⟨w.heap.size, 0, none⟩), .int .u8 x.toNat, .string s, .func (.func 74) #[] #[.pointer (some ⟨w.heap.size + 1, 0, none⟩)], .int .u8 x.toNat, undef, undef, undef], defers := [] }) ?assign ?body ?done ?stop
  case assign =>
    intro l x W K hK
    gi_wp2
    exact hK
  case body =>
    rintro l pre x W ⟨hb, hx, hB⟩ hlt
    have hz := hB.size
    gi_wp2_with (refine ⟨trivial, ?_⟩; gi_at_call 42; refine (CallsIn.inRound l (callsIn_wide.2 (writeByte_any w.heap.size w.heap.size pre x _ hb (by omega) hz))).mono ?_; rintro e w' ⟨rfl, hb', hB', hk'⟩)
    have hx' : w'.heap[w.heap.size + 1]? = some (.cells #[.string s] 9) := hk' _ _ hx (fun e => by simp at e) (fun c fz e => by cases e)
    exact ⟨(keepsOthers_of hk' hb.cells hB'.size).from _, hx'.trans hx.symm, hb', hx', hB.trans hB'⟩
  case done =>
    rintro D ys W hD rfl ⟨hb, hx, hB⟩ hK
    have hz := hB.size
    gi_wp2_with (refine ⟨trivial, ?_⟩; gi_at_call 43; refine (callsIn_wide.2 (Tryz.Builder_String_any_k w.heap.size w.heap.size _ _ hb hz)).mono ?_; rintro e w' ⟨rfl, hb', hB', hk'⟩)
    have hK' : w'.heap[D]? = some (.deferred (some [])) := hk' _ _ hK (fun e => by simp at e hD; omega) (fun c fz e => by cases e)
    refine ⟨by simp, .inl ⟨_, _, rfl, run_takeDeferred hK', ?_⟩⟩
    exact ⟨_, results_tmp rfl _ _ _, rfl, (hB.trans hB').trans (belowK_b (w := w) (Nat.le_refl _) w' D _ _ (by simp at hD; omega) hK' rfl rfl)⟩
  case stop =>
    rintro D c pre W _ _ h _
    exact h.elim
end Go.Proofs.YthicdhnjincflaaGreatDoor
