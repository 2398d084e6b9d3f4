/- Contracts of ssz.right and ssz.Number. -/
import Derived.Test.YtpfmdhcmhcoddaaGreatDoorSszA
import Derived.Shelf.Abstract
import Derived.Shelf.SlicesQ.IndexFunc
namespace Go.Proofs.YtpfmdhcmhcoddaaGreatDoor
open Go.RowKit Go.Shelf Go.Lib

theorem anyB_hit {xs : List ByteArray} {p : ByteArray → Bool} {k : Nat} {x : ByteArray} (h : xs[k]? = some x) (hq : p x = true) : xs.any p = true := by
  rw [List.any_eq_true]
  exact ⟨x, List.mem_of_getElem? h, hq⟩
theorem anyB_miss {xs : List ByteArray} {p : ByteArray → Bool} (h : ∀ j x, j < xs.length → xs[j]? = some x → p x = false) : xs.any p = false := by
  rw [List.any_eq_false]
  intro x hx
  obtain ⟨j, hj, e⟩ := List.mem_iff_getElem.1 hx
  rw [h j x hj (by rw [List.getElem?_eq_getElem hj, e])]; simp
/-- is it no chunk? -/
def noChunk (s : ByteArray) : Bool := !decide (s.size = 32)
theorem enters_right1 (args : Array Value) (w : World) : (callFunc 231 args).run Tryz.prog w = .ok (.enter 231 args) w := enters_of Tryz.func231 (by kernel_rfl) rfl args w

set_option maxRecDepth 100000 in
set_option maxHeartbeats 2000000 in
theorem indexChunk_any (xs : List ByteArray) (v : Value) (w : World) (hr : Strs w v xs) (hlen : xs.length ≤ 1099511627776) :
    Calls Tryz.prog 276 #[v, .func (.func 231) #[] #[]] w fun e w' => (∃ n : Int, e = .returned (.int .i64 n) ∧ decide (0 ≤ n) = xs.any noChunk) ∧ Below w.heap.size w w' := by
  have eg := enters_right1
  have Hr := Lib.hid hr
  obtain ⟨pt, cap, rfl, hc, hat⟩ := hr
  clear hc hat
  go_enter Tryz.func276, Tryz.ntmps276
  go_wp2
  go_loopg [5, 8] xs.length (fun gg _ s8 wr => ∃ k : Nat, k ≤ xs.length ∧ xs.length - k ≤ gg ∧ s8 = .int .i64 k ∧ Aside (Below w.heap.size w wr) ∧ Aside (∀ j x, j < k → xs[j]? = some x → noChunk x = false))
  case atStart => exact ⟨0, by omega, by omega, rfl, Below.refl _ w, fun j x hj => absurd hj (Nat.not_lt_zero _)⟩
  case round =>
    obtain ⟨k, hk, hg, rfl, BW, A⟩ := hrel
    have g1 : (0 : Int) ≤ k := by omega
    by_cases hlt : k < xs.length
    · have hltz : (k : Int) < (xs.length : Int) := by omega
      obtain ⟨x, hx⟩ : ∃ x, xs[k]? = some x := ⟨xs[k], by simp [hlt]⟩
      obtain ⟨_, _, e0, _, h0⟩ := (Hr.out).below BW.out
      cases e0
      rcases h0 with h0 | ⟨bk, o, rfl, hbk, hat⟩
      · subst h0; simp at hlt
      · have h1 := hat k x hx
        have hcall := right1_any x wr
        have HX := Lib.hid hx
        clear hat hx
        cases hq : noChunk x with
        | true =>
          rw [show (!decide (x.size = 32)) = true from hq] at hcall
          go_wp2_with (go_at_fn 231; refine hcall.mono ?_; rintro e w' ⟨rfl, rfl⟩)
          go_ret
          refine ⟨⟨k, rfl, ?_⟩, BW.out⟩
          rw [anyB_hit HX.out hq]; simp
        | false =>
          rw [show (!decide (x.size = 32)) = false from hq] at hcall
          go_wp2_with (go_at_fn 231; refine hcall.mono ?_; rintro e w' ⟨rfl, rfl⟩)
          go_roundg (xs.length - (k + 1))
          case measure => omega
          case rel =>
            refine ⟨k + 1, by omega, by omega, by go_num, BW.out, (show Aside _ from fun j y hj hy => ?_)⟩
            by_cases e : j = k
            · subst e
              rw [HX.out] at hy; cases hy; exact hq
            · exact A.out j y (by omega) hy
    · have hltz : ¬ (k : Int) < (xs.length : Int) := by omega
      have : k = xs.length := by omega
      subst this
      go_wp2
      go_ret
      refine ⟨⟨-1, rfl, ?_⟩, BW.out⟩
      rw [anyB_miss A.out]; rfl
set_option maxRecDepth 100000 in
theorem containsChunk_any (xs : List ByteArray) (v : Value) (w : World) (hr : Strs w v xs) (hlen : xs.length ≤ 1099511627776) :
    Calls Tryz.prog 230 #[v, .func (.func 231) #[] #[]] w fun e w' => e = .returned (.bool (xs.any noChunk)) ∧ Below w.heap.size w w' := by
  go_enter Tryz.func230, Tryz.ntmps230
  go_wp2_with (go_at_call 276; refine (indexChunk_any xs v _ hr hlen).mono ?_)
  rintro e w' ⟨⟨n, rfl, hn⟩, hb⟩
  go_wp2
  go_ret
  exact ⟨by rw [← hn]; rfl, hb⟩
/-- are they chunks of a tree of a depth? -/
def rightB (xs : List ByteArray) (d : Nat) : Bool := decide (xs.length ≤ 2 ^ d) && !xs.any noChunk
set_option maxRecDepth 100000 in
set_option maxHeartbeats 1600000 in
theorem sright_any (xs : List ByteArray) (v : Value) (d : Nat) (w : World) (hr : Strs w v xs) (hd : d = 2 ∨ d = 3 ∨ d = 4) (hlen : xs.length ≤ 1099511627776) :
    Calls Tryz.prog 181 #[v, .int .i64 d] w fun e w' => e = .returned (.bool (rightB xs d)) ∧ Below w.heap.size w w' := by
  have HC := Lib.hid (containsChunk_any xs v w hr hlen)
  obtain ⟨p, c, rfl, -⟩ := hr
  unfold rightB
  by_cases hl : xs.length ≤ 2 ^ d
  · rw [decide_eq_true hl]
    rcases hd with rfl | rfl | rfl
    · have g1 : decide ((xs.length : Int) ≤ min 256 4) = true := by simp at hl ⊢; omega
      cases hb : xs.any noChunk with
      | true =>
        have H := HC.out
        rw [hb] at H
        have HH := Lib.hid H
        clear H hb hl
        go_enter Tryz.func181, Tryz.ntmps181
        go_wp2_with fail
        refine HH.out.mono ?_
        rintro e w1 ⟨rfl, hb1⟩
        go_wp2
        go_ret
        exact ⟨rfl, hb1⟩
      | false =>
        have H := HC.out
        rw [hb] at H
        have HH := Lib.hid H
        clear H hb hl
        go_enter Tryz.func181, Tryz.ntmps181
        go_wp2_with fail
        refine HH.out.mono ?_
        rintro e w1 ⟨rfl, hb1⟩
        go_wp2
        go_ret
        exact ⟨rfl, hb1⟩
    · have g1 : decide ((xs.length : Int) ≤ min 256 8) = true := by simp at hl ⊢; omega
      cases hb : xs.any noChunk with
      | true =>
        have H := HC.out
        rw [hb] at H
        have HH := Lib.hid H
        clear H hb hl
        go_enter Tryz.func181, Tryz.ntmps181
        go_wp2_with fail
        refine HH.out.mono ?_
        rintro e w1 ⟨rfl, hb1⟩
        go_wp2
        go_ret
        exact ⟨rfl, hb1⟩
      | false =>
        have H := HC.out
        rw [hb] at H
        have HH := Lib.hid H
        clear H hb hl
        go_enter Tryz.func181, Tryz.ntmps181
        go_wp2_with fail
        refine HH.out.mono ?_
        rintro e w1 ⟨rfl, hb1⟩
        go_wp2
        go_ret
        exact ⟨rfl, hb1⟩
    · have g1 : decide ((xs.length : Int) ≤ min 256 16) = true := by simp at hl ⊢; omega
      cases hb : xs.any noChunk with
      | true =>
        have H := HC.out
        rw [hb] at H
        have HH := Lib.hid H
        clear H hb hl
        go_enter Tryz.func181, Tryz.ntmps181
        go_wp2_with fail
        refine HH.out.mono ?_
        rintro e w1 ⟨rfl, hb1⟩
        go_wp2
        go_ret
        exact ⟨rfl, hb1⟩
      | false =>
        have H := HC.out
        rw [hb] at H
        have HH := Lib.hid H
        clear H hb hl
        go_enter Tryz.func181, Tryz.ntmps181
        go_wp2_with fail
        refine HH.out.mono ?_
        rintro e w1 ⟨rfl, hb1⟩
        go_wp2
        go_ret
        exact ⟨rfl, hb1⟩
  · rw [decide_eq_false hl]
    rcases hd with rfl | rfl | rfl
    · have g1 : decide ((xs.length : Int) ≤ min 256 4) = false := by simp at hl ⊢; omega
      clear hl
      go_enter Tryz.func181, Tryz.ntmps181
      go_wp2
      go_ret
      exact ⟨rfl, Below.refl _ _⟩
    · have g1 : decide ((xs.length : Int) ≤ min 256 8) = false := by simp at hl ⊢; omega
      clear hl
      go_enter Tryz.func181, Tryz.ntmps181
      go_wp2
      go_ret
      exact ⟨rfl, Below.refl _ _⟩
    · have g1 : decide ((xs.length : Int) ≤ min 256 16) = false := by simp at hl ⊢; omega
      clear hl
      go_enter Tryz.func181, Tryz.ntmps181
      go_wp2
      go_ret
      exact ⟨rfl, Below.refl _ _⟩

/-- a number's chunk -/
def numL (n : Nat) : List UInt8 := (List.range 8).map (fun k => UInt8.ofNat (n / 256 ^ k)) ++ List.replicate 24 0
theorem numL_length (n : Nat) : (numL n).length = 32 := by simp [numL]
theorem numL_at (n k : Nat) (h : k < 8) : (numL n)[k]? = some (UInt8.ofNat (n / 256 ^ k)) := by
  unfold numL
  rw [List.getElem?_append_left (by simp; exact h), List.getElem?_map, List.getElem?_range h]; rfl
set_option maxRecDepth 100000 in
set_option maxHeartbeats 3200000 in
theorem sszNumber_any (n : Nat) (w : World) (hn : n < 18446744073709551616) :
    Calls Tryz.prog 118 #[.int .u64 n] w fun e w' => e = .returned (.string ⟨(numL n).toArray⟩) ∧ Below w.heap.size w w' := by
  have HN := Lib.hid hn
  clear hn
  obtain ⟨bl, hbl⟩ : ∃ bl, numL n = bl := ⟨_, rfl⟩
  have hbll : bl.length = 32 := by rw [← hbl]; exact numL_length n
  have hbx : ∀ k, k < 8 → bl[k]? = some (UInt8.ofNat (n / 256 ^ k)) := fun k h => by rw [← hbl]; exact numL_at n k h
  have hz : bl.drop 8 = List.replicate 24 0 := by rw [← hbl]; rfl
  rw [hbl]
  have HBL := Lib.hid (And.intro hbll hz)
  have HBX := Lib.hid hbx
  have l0 : OwnB 252 w.heap.size (w.alloc (.cells (Lib.byteCells (List.replicate 32 0)).toArray 252)) (.slice (some ⟨w.heap.size, 0, none⟩) 32 32) (bl.take 0 ++ List.replicate (32 - 0) 0) := by
    have := OwnB.lit (e := 252) (base := w.heap.size) w (List.replicate 32 0) (Nat.le_refl _) (by simp)
    simpa using this
  have L0 := Lib.hid l0
  clear l0 hbll hbx hz hbl
  go_enter Tryz.func118, Tryz.ntmps118
  go_wp2
  go_loopw [5] (fun i wr => ∃ k : Nat, k ≤ 8 ∧ i = .int .i64 k ∧ OwnB 252 w.heap.size wr (.slice (some ⟨w.heap.size, 0, none⟩) 32 32) (bl.take k ++ List.replicate (32 - k) 0) ∧ Below w.heap.size w wr) (fun i _ => 8 - (RowKit.intOf i).toNat)
  case atStart => exact ⟨0, by omega, rfl, L0.out, (Below.refl _ _).alloc (Nat.le_refl _) _⟩
  case round =>
    obtain ⟨k, hk, rfl, hown, hB⟩ := hrel
    by_cases hlt : k < 8
    · obtain ⟨_, hs', hc, hf⟩ := OwnB.cells hown (by rw [part32b_length HBL.out.1 (by omega)]; omega)
      have hst := hown.stored k (bl[k]'(by rw [HBL.out.1]; omega))
      rw [part32b_set HBL.out.1 (by omega)] at hst
      have hfz := hf k
      have hck := hc k (by rw [part32b_length HBL.out.1 (by omega)]; omega)
      have hby := HBX.out k hlt
      rw [List.getElem?_eq_getElem (by rw [HBL.out.1]; omega)] at hby
      have Hst := Lib.hid hst
      have HB := Lib.hid hB
      have Hby := Lib.hid (Option.some.inj hby)
      clear hst hown hc hf hB hby
      obtain ⟨kk, hkk⟩ : ∃ kk, kk = k := ⟨_, rfl⟩
      rcases (by omega : k = 0 ∨ k = 1 ∨ k = 2 ∨ k = 3 ∨ k = 4 ∨ k = 5 ∨ k = 6 ∨ k = 7) with rfl | rfl | rfl | rfl | rfl | rfl | rfl | rfl
      all_goals
        have HK := Lib.hid hkk
        clear hkk
        go_wp2
        obtain ⟨q1, q2⟩ := Hst.out
        rw [Hby.out] at q1 q2
        have q3 := HB.out.grown q2 (by have := HB.out.size; omega) (fun j hj => by have := Option.some.inj hj; omega)
        refine ⟨⟨kk + 1, by have := HK.out; omega, by rw [HK.out] <;> rfl, by rw [HK.out]; simpa using q1, by simpa using q3⟩, by simp [RowKit.intOf]⟩
    · obtain rfl : k = 8 := by omega
      have hc := OwnB.strAsS (P := Tryz.prog) hown Tryz.underlying167 Tryz.underlying5 Tryz.underlying9
      have e : bl.take 8 ++ List.replicate (32 - 8) 0 = bl := by rw [← HBL.out.2, List.take_append_drop]
      rw [e] at hc
      clear hown e
      go_wp2
      go_ret
      exact ⟨rfl, hB⟩
end Go.Proofs.YtpfmdhcmhcoddaaGreatDoor
