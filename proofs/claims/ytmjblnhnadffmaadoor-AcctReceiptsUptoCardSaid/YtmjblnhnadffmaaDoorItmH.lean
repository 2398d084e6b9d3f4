/- Contract of put: an item's bytes, by a builder. -/
import Derived.Test.YtmjblnhnadffmaaDoorItmE
import Derived.StillTailTactics
import Derived.Test.YtmjblnhnadffmaaDoorBufS
import Derived.RangeFuncRecord
namespace Go.Proofs.YtmjblnhnadffmaaDoor
open Go.RowKit Go.Shelf Go.Lib

theorem IsBuf.below {B b : Nat} {l : List UInt8} {w w' : World} (h : IsBuf B b l w) (hb : Below w.heap.size w w') : IsBuf B b l w' := by
  have key : ∀ {p : Value}, Lib.BuilderAtF 111 5 B b p (Lib.byteCells l) w → Lib.BuilderAtF 111 5 B b p (Lib.byteCells l) w' := by
    rintro p ⟨hB, v, hbk, ⟨hl, hown⟩, hne⟩
    refine ⟨hB, v, ?_, ⟨hl, ?_⟩, hne⟩
    · rw [hb.block b (Array.getElem?_eq_some_iff.1 hbk).1]; exact hbk
    · rcases hown with hown | ⟨g, cap, cur, fz, hv, hg, hh, r⟩
      · exact .inl hown
      · exact .inr ⟨g, cap, cur, fz, hv, hg, by rw [hb.block g (Array.getElem?_eq_some_iff.1 hh).1]; exact hh, r⟩
  rcases h with h | h
  · exact .inl (key h)
  · exact .inr (key h)
theorem IsBuf.new (B : Nat) (w : World) (hB : B ≤ w.heap.size) : IsBuf B w.heap.size [] (w.alloc (.cells #[.pointer none, .slice none 0 0] 111)) :=
  .inl ⟨hB, .slice none 0 0, World.alloc_heap_new w _, World.ownsRowF_nil _ _ _ _, by simp [Value.ownBlock]⟩
theorem IsBuf.laid {B b : Nat} {l : List UInt8} {w : World} (h : IsBuf B b l w) (o : Obj) : IsBuf B b l (w.alloc o) := Lib.IsBuilderF.alloc h o

theorem put_eq (x : Item) : put x = if x.isList then framed (putAll x.list) 192 else putText x.text := by
  cases x with
  | mk b t l => rw [put]; rfl
theorem framed_le (s : List UInt8) (b : Nat) : s.length < (framed s b).length := by
  unfold framed; split <;> simp <;> omega
theorem putAll_take {l : List Item} {k : Nat} {y : Item} (h : l[k]? = some y) : putAll (l.take (k + 1)) = putAll (l.take k) ++ put y := by
  rw [List.take_add_one, h, putAll_append]
  simp [putAll]
theorem putAll_take_le (l : List Item) (k : Nat) : (putAll (l.take k)).length ≤ (putAll l).length := by
  conv => rhs; rw [← List.take_append_drop k l, putAll_append]
  simp
theorem put_list {x : Item} (h : x.isList = true) : put x = framed (putAll x.list) 192 := by rw [put_eq, h]; rfl
theorem put_text {x : Item} (h : x.isList = false) : put x = putText x.text := by rw [put_eq, h]; rfl

set_option maxRecDepth 100000 in
set_option maxHeartbeats 3200000 in
theorem put_any (N : Nat) (hN : N ≤ 1099511627776) : ∀ (x : Item) (v : Value) (w : World), x.size ≤ N → (put x).length ≤ 1099511627776 → Reads w w.heap.size v x.list →
    Calls Tryd.prog 57 #[.agg #[.bool x.isList, .string ⟨x.text.toArray⟩, v]] w fun e w' => e = .returned (.string ⟨(put x).toArray⟩) ∧ Below w.heap.size w w' := by
  induction N with
  | zero => intro x v w hx; have := x.size_pos; omega
  | succ N ih =>
    intro x v w hx hp hr
    obtain ⟨p, c, rfl⟩ := hr.form
    have ih' := Lib.hid (ih (by omega))
    have hlen : x.list.length ≤ 1099511627776 := by have := length_lt_size x; omega
    have HX := Lib.hid hx
    have Hr := Lib.hid hr
    clear ih hx hr
    cases hb : x.isList with
    | false =>
      rw [put_text hb] at hp ⊢
      obtain ⟨t, ht⟩ : ∃ t, x.text = t := ⟨_, rfl⟩
      rw [ht] at hp ⊢
      by_cases h1 : t.length = 1
      · match t, h1 with
        | [b], _ =>
          by_cases h2 : b.toNat < 128
          · have e : putText [b] = [b] := by simp [putText, h2]
            rw [e]
            have h3 : (b.toNat : Int) < 128 := by omega
            have hgi : (⟨#[b]⟩ : ByteArray)[0]'(Nat.zero_lt_one) = b := rfl
            clear e hp
            go_enter Tryd.func57, Tryd.ntmps57
            go_wp2
            go_ret
            exact ⟨rfl, laid1 _ _⟩
          · have e : putText [b] = framed [b] 128 := by simp [putText, h2]
            rw [e] at hp ⊢
            have h3 : ¬ (b.toNat : Int) < 128 := by omega
            have hgi : (⟨#[b]⟩ : ByteArray)[0]'(Nat.zero_lt_one) = b := rfl
            clear e
            go_enter Tryd.func57, Tryd.ntmps57
            go_wp2_with fail
            refine (framed_any [b] 128 _ (by simp) (by omega)).mono ?_
            rintro e w' ⟨rfl, hb'⟩
            have hR := (laid1 w _).trans (hb'.mono (by rw [laid1_size]; omega))
            clear hb'
            go_wp2
            go_ret
            exact ⟨rfl, hR⟩
      · have e : putText t = framed t 128 := by simp [putText, h1]
        rw [e] at hp ⊢
        have h3 : ¬ (t.length : Int) = 1 := by omega
        clear e
        go_enter Tryd.func57, Tryd.ntmps57
        go_wp2_with fail
        refine (framed_any t 128 _ (by have := framed_le t 128; omega) (by omega)).mono ?_
        rintro e w' ⟨rfl, hb'⟩
        have hR := (laid1 w _).trans (hb'.mono (by rw [laid1_size]; omega))
        clear hb'
        go_wp2
        go_ret
        exact ⟨rfl, hR⟩
    | true =>
      rw [put_list hb] at hp ⊢
      have hpa := framed_le (putAll x.list) 192
      obtain ⟨n, hn⟩ : ∃ n, x.list.length = n := ⟨_, rfl⟩
      rw [hn] at Hr hlen ⊢
      have HN := Lib.hid hn
      have HP := Lib.hid (Nat.le_trans (Nat.le_of_lt hpa) hp)
      clear hn hp hpa
      go_enter Tryd.func57, Tryd.ntmps57
      go_wp2_with fail
      go_loopw [5, 11] (fun _ i wr => ∃ k : Nat, k ≤ n ∧ i = .int .i64 k ∧ IsBuf w.heap.size (w.heap.size + 1) (putAll (x.list.take k)) wr ∧ Below w.heap.size w wr) (fun _ i _ => n - (intOf i).toNat)
      case atStart =>
        refine ⟨0, by omega, rfl, ?_, laid2 _ _ _⟩
        have := IsBuf.new w.heap.size (w.alloc (.cells #[.bool true, .string ⟨x.text.toArray⟩, .slice p n c] 51)) (by simp)
        rw [laid1_size] at this
        simpa [putAll] using this
      case round =>
        obtain ⟨k, hk, rfl, hbuf, hB⟩ := hrel
        have g1 : (0 : Int) ≤ k := by omega
        by_cases hlt : k < n
        · have hltz : (k : Int) < (n : Int) := by omega
          have hz := hB.size
          obtain ⟨y, hy⟩ : ∃ y, x.list[k]? = some y := ⟨x.list[k]'(by rw [HN.out]; exact hlt), by simp⟩
          obtain ⟨-, g0, o, rfl, hg0, hat⟩ := (Hr.out.below hB hz).at (by omega)
          obtain ⟨h2, h3, v', h4, h5⟩ := hat k y hy
          obtain ⟨q1, n1, rfl⟩ := h5.form
          have HY := Lib.hid hy
          have H5 := Lib.hid h5
          clear hat h5 hy
          go_wp2_with fail
          have hsz := size_child HY.out
          have hpy := putAll_take HY.out
          have hple := putAll_take_le x.list (k + 1)
          rw [hpy, List.length_append] at hple
          have hpl : (put y).length ≤ 1099511627776 ∧ (putAll (x.list.take k)).length + (put y).length ≤ 1099511627776 := by have := HP.out; omega
          clear hple
          refine (ih'.out y _ _ (by have := HX.out; omega) hpl.1 (H5.out.below (laid1 _ _) (by rw [laid1_size]; omega))).mono ?_
          rintro e w1 ⟨rfl, hb1⟩
          have hbuf1 := (hbuf.laid (.cells #[.bool y.isList, .string ⟨y.text.toArray⟩, .slice q1 y.list.length n1] 51)).below hb1
          have hB1 := (hB.alloc hz (.cells #[.bool y.isList, .string ⟨y.text.toArray⟩, .slice q1 y.list.length n1] 51)).trans (hb1.mono (by rw [laid1_size]; omega))
          have HPY := Lib.hid hpy
          have HPL := Lib.hid hpl
          clear hbuf hB hb1 hsz hpy hpl
          go_wp2_with fail
          refine (writeString_any w.heap.size (w.heap.size + 1) _ _ w1 hbuf1 (by have := HPL.out.2; rw [size_mk]; omega) hB1.size).mono ?_
          rintro e w2 ⟨rfl, hbuf2, hB2, _⟩
          have hB3 := hB1.trans hB2
          clear hbuf1 hB1 hB2
          go_wp2
          refine ⟨⟨k + 1, by omega, by go_num, ?_, hB3⟩, by simp [intOf]; omega⟩
          rw [HPY.out]
          exact hbuf2
        · have hltz : ¬ (k : Int) < (n : Int) := by omega
          have : k = n := by omega
          subst this
          go_wp2_with fail
          refine (Tryd.Builder_String_any_k w.heap.size (w.heap.size + 1) _ wr hbuf hB.size).mono ?_
          rintro e w1 ⟨rfl, _, hB1, _⟩
          have hB2 := hB.trans hB1
          have HT := Lib.hid (show x.list.take k = x.list from List.take_of_length_le (by rw [HN.out]; exact Nat.le_refl _))
          rw [HT.out]
          clear hB hB1 hbuf
          go_wp2_with fail
          refine (framed_any _ 192 w1 HP.out (by omega)).mono ?_
          rintro e w2 ⟨rfl, hB3⟩
          have hB4 := hB2.trans (hB3.mono hB2.size)
          clear hB2 hB3
          go_wp2
          go_ret
          exact ⟨rfl, hB4⟩
end Go.Proofs.YtmjblnhnadffmaaDoor
