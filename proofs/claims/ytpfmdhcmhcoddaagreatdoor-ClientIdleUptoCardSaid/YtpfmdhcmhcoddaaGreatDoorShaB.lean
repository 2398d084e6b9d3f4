/- Contract of sha.take: a block is taken in. -/
import Derived.Test.YtpfmdhcmhcoddaaGreatDoorShaP
import Derived.WalkSpells
import Derived.WalkLawsBesides
import Derived.Deep.QuietTactic
import Derived.BigQuiet
import Derived.StillTailTactics
import Derived.IntWalk
import Derived.Deep.LoopGhost
import Derived.RangeFuncRecord
namespace Go.Proofs.YtpfmdhcmhcoddaaGreatDoor
open Go.RowKit
attribute [local go_sem] rotz_2 rotz_6 rotz_11 rotz_13 rotz_22 rotz_25 wv_and wv_or wv_xor wv_not wv_add wv_shl8 wv_shl8w wv_addw wv_shr3 wv_shr10

/-- a row of words in a block that may be written -/
def Row32 (W : World) (b : Nat) (l : List UInt32) : Prop := (∀ j (h : j < l.length), W.cell? ⟨b, j, none⟩ = some (.int .u32 (wv l[j]))) ∧ ∀ j, W.frozen? ⟨b, j, none⟩ = false
theorem Row32.kept {W W' : World} {b : Nat} {l : List UInt32} (h : Row32 W b l) (hb : W'.heap[b]? = W.heap[b]?) : Row32 W' b l :=
  ⟨fun j hj => (World.cell?_of_block (a := ⟨b, j, none⟩) hb).trans (h.1 j hj), fun j => (World.frozen?_of_block (a := ⟨b, j, none⟩) hb).trans (h.2 j)⟩
theorem Row32.set {W : World} {b : Nat} {l : List UInt32} (h : Row32 W b l) (j : Nat) (x : UInt32) (hj : j < l.length) : Row32 (W.setCell ⟨b, j, none⟩ (.int .u32 (wv x))) b (l.set j x) := by
  refine ⟨fun i hi => ?_, fun i => by rw [World.frozen?_setCell]; exact h.2 i⟩
  rw [List.length_set] at hi
  by_cases e : j = i
  · subst e
    rw [List.getElem_set_self]
    exact World.cell?_setCell_same _ _ _ (h.1 j hj)
  · rw [List.getElem_set_ne e, World.cell?_setCell_other _ _ _ _ (fun e' => e (by cases e'; rfl))]
    exact h.1 i hi
theorem Row32.other {W : World} {b g i : Nat} {l : List UInt32} {v : Value} (h : Row32 W b l) (hne : b ≠ g) : Row32 (W.setCell ⟨g, i, none⟩ v) b l := h.kept (Below.heap_setCell W ⟨g, i, none⟩ v b hne)
theorem Row32.new (w : World) (l : List UInt32) (t : TypeId) : Row32 (w.alloc (.cells (l.map fun x => Value.int .u32 (wv x)).toArray t)) w.heap.size l := by
  refine ⟨fun j hj => ?_, fun j => ?_⟩
  · rw [World.cell?_alloc_mark]
    simp [hj]
  · rw [World.frozen?, World.alloc_heap_new]
    simp
theorem byte_word (c : UInt8) : IntKind.u32.wrap (c.toNat : Int) = wv c.toUInt32 := by
  have := c.toNat_lt
  rw [IntKind.wrap_u32]
  unfold wv
  rw [UInt8.toNat_toUInt32]
  omega
/-- the words, once i bytes have come -/
def words0 (s : List UInt8) (i : Nat) : List UInt32 := (List.range 64).map fun j => part32 s i j
theorem words0_length (s : List UInt8) (i : Nat) : (words0 s i).length = 64 := by simp [words0]
theorem words0_at (s : List UInt8) (i j : Nat) (h : j < (words0 s i).length) : (words0 s i)[j] = part32 s i j := by simp [words0]
theorem words0_zero (s : List UInt8) : words0 s 0 = List.replicate 64 0 := by
  apply List.ext_getElem
  · simp [words0]
  · intro j h1 h2
    rw [words0_at, part32_zero, List.getElem_replicate]
theorem words0_step (s : List UInt8) (i : Nat) (c : UInt8) (hc : s[i]? = some c) : (words0 s i).set (i / 4) ((part32 s i (i / 4) <<< 8) ||| c.toUInt32) = words0 s (i + 1) := by
  apply List.ext_getElem
  · simp [words0]
  · intro j h1 h2
    rw [words0_at]
    by_cases e : i / 4 = j
    · subst e
      rw [List.getElem_set_self, part32_at s i c hc]
    · rw [List.getElem_set_ne e, words0_at, part32_other s i j (fun h => e h.symm)]

/-- the words, up to the t-th -/
def words1 (s : List UInt8) (t : Nat) : List UInt32 := (List.range 64).map fun j => if j < t then wAt s j else 0
theorem words1_length (s : List UInt8) (t : Nat) : (words1 s t).length = 64 := by simp [words1]
theorem words1_at (s : List UInt8) (t j : Nat) (h : j < (words1 s t).length) : (words1 s t)[j] = if j < t then wAt s j else 0 := by simp [words1]
theorem words1_start (s : List UInt8) (hs : s.length = 64) : words0 s 64 = words1 s 16 := by
  apply List.ext_getElem
  · simp [words0, words1]
  · intro j h1 h2
    rw [words0_at, words1_at, part32_done s j hs]
    split
    · rename_i h; rw [wAt_low s j h]
    · unfold word32
      rw [List.drop_eq_nil_of_le (by omega)]
      rfl
theorem words1_step (s : List UInt8) (t : Nat) : (words1 s t).set t (wAt s t) = words1 s (t + 1) := by
  apply List.ext_getElem
  · simp [words1]
  · intro j h1 h2
    rw [words1_at]
    by_cases e : t = j
    · subst e
      rw [List.getElem_set_self, if_pos (by omega)]
    · rw [List.getElem_set_ne e, words1_at]
      by_cases h : j < t
      · rw [if_pos h, if_pos (by omega)]
      · rw [if_neg h, if_neg (by omega)]
theorem Row32.word {W : World} {b : Nat} {s : List UInt8} {t : Nat} (h : Row32 W b (words1 s t)) (j : Nat) (hj : j < t) (hj2 : j < 64) : W.cell? ⟨b, j, none⟩ = some (.int .u32 (wv (wAt s j))) := by
  have := h.1 j (by rw [words1_length]; exact hj2)
  rw [words1_at, if_pos hj] at this
  exact this

theorem grown_drew {w W : World} {r : Option Nat} (h : w.grownBy W r) : w.grownBy W.drew r := ⟨h.os, h.tape, h.output, h.size, h.block⟩
theorem grown_set {w W : World} {b : Nat} (h : w.grownBy W (some b)) (i : Nat) (v : Value) : w.grownBy (W.setCell ⟨b, i, none⟩ v) (some b) :=
  ⟨h.os, h.tape, h.output, by rw [World.size_setCell]; exact h.size, fun k hk hne => (Below.heap_setCell W ⟨b, i, none⟩ v k (fun e => hne (by rw [e]))).trans (h.block k hk hne)⟩
/-- the eight words, the first n of them grown -/
def mix (l r : List UInt32) (n : Nat) : List UInt32 := (List.range 8).map fun j => if j < n then l.getD j 0 + r.getD j 0 else l.getD j 0
theorem mix_zero (s : St) (r : List UInt32) : mix s.list r 0 = s.list := rfl
theorem mix_done (s : St) (blk : List UInt8) : mix s.list (rounds blk s 64).list 8 = (s.take blk).list := by
  simp only [mix, St.take, St.list]
  generalize rounds blk s 64 = r
  rfl
theorem mix_step (l r : List UInt32) (n : Nat) : (mix l r n).set n (l.getD n 0 + r.getD n 0) = mix l r (n + 1) := by
  apply List.ext_getElem
  · simp [mix]
  · intro j h1 h2
    by_cases e : n = j
    · subst e
      rw [List.getElem_set_self]
      simp [mix]
    · rw [List.getElem_set_ne e]
      simp only [mix, List.getElem_map, List.getElem_range]
      by_cases h : j < n
      · rw [if_pos h, if_pos (by omega)]
      · rw [if_neg h, if_neg (by omega)]
theorem mix_at (l r : List UInt32) (n : Nat) (h : n < (mix l r n).length) : (mix l r n)[n] = l.getD n 0 := by simp [mix]
theorem mix_length (l r : List UInt32) (n : Nat) : (mix l r n).length = 8 := by simp [mix]
/-- the table of the rounds' constants lies where the program has it -/
def KTab (W : World) : Prop := ∀ t, t < 64 → W.cell? ⟨4, t, none⟩ = some (.int .u32 (wv (kAt t)))
theorem KTab.below {w W : World} (h : KTab w) (hb : Below w.heap.size w W) : KTab W := fun t ht => (hb.cell (p := ⟨4, t, none⟩) (World.block_lt_of_cell? _ _ (h t ht))).trans (h t ht)
theorem Row32.below {w W : World} {b : Nat} {l : List UInt32} (h : Row32 w b l) (hb : Below w.heap.size w W) (hz : 0 < l.length) : Row32 W b l := h.kept (hb.block _ (World.block_lt_of_cell? w ⟨b, 0, none⟩ (h.1 0 hz)))
set_option maxRecDepth 100000 in
set_option maxHeartbeats 3200000 in
theorem shaTake_any (s : List UInt8) (hb : Nat) (st : St) (w : World) (hs : s.length = 64) (hH : Row32 w hb st.list) (hK : KTab w) :
    Calls Tryz.prog 185 #[.pointer (some ⟨hb, 0, none⟩), .string ⟨s.toArray⟩] w fun e w' => (∃ v, e = .returned v) ∧ Row32 w' hb (st.take s).list ∧ w.grownBy w' (some hb) := by
  have HS := Lib.hid hs
  have hsz : (⟨s.toArray⟩ : ByteArray).size = 64 := hs
  have HSZ := Lib.hid hsz
  clear hs hsz
  go_enter Tryz.func185, Tryz.ntmps185
  go_wp2
  go_loopw [22] (fun i wr => ∃ k : Nat, k ≤ 64 ∧ i = .int .i64 k ∧ Aside (Row32 wr w.heap.size (words0 s k)) ∧ Aside (Below w.heap.size w wr)) (fun i _ => 64 - (intOf i).toNat)
  case atStart =>
    refine ⟨0, by omega, rfl, ?_, ?_⟩
    · show Row32 _ _ _
      rw [words0_zero]
      exact Row32.new w (List.replicate 64 0) _
    · exact (Below.refl _ _).alloc (Nat.le_refl _) _
  case round =>
    obtain ⟨k, hk, rfl, HR, HB⟩ := hrel
    by_cases hlt : k < 64
    · have g1 : (0 : Int) ≤ k := by omega
      have g2 : (k : Int) < 64 := by omega
      have g3 : (k : Int) / 4 < 64 := by omega
      have g4 : (0 : Int) ≤ (k : Int) / 4 := by omega
      have g5 : ((k : Int) / 4).toNat = k / 4 := by omega
      obtain ⟨c, hc⟩ : ∃ c, s[k]? = some c := ⟨s[k]'(by rw [HS.out]; exact hlt), by simp [HS.out, hlt]⟩
      have hcell := HR.out.1 (k / 4) (by rw [words0_length]; omega)
      rw [words0_at] at hcell
      have hfz := HR.out.2 (k / 4)
      have hix : (⟨s.toArray⟩ : ByteArray).size = 64 := HSZ.out
      have hby : ∀ h : k < (⟨s.toArray⟩ : ByteArray).size, (⟨s.toArray⟩ : ByteArray)[k]'h = c := fun h => by
        have := (List.getElem?_eq_some_iff.1 hc).2
        rw [← this]; rfl
      have hw4 : IntKind.i64.wrap ((k : Int) / 4) = (k : Int) / 4 := IntWalk.i64_in _ (by omega)
      have hcv : IntKind.u32.wrap (c.toNat : Int) = wv c.toUInt32 := byte_word c
      go_wp2_with fail
      go_still_tail 13, (by kernel_rfl)
      change wpList _ _ _ _ _ wr.drew
      have hl4 : k / 4 < (words0 s k).length := by rw [words0_length]; omega
      have hR2 := (Row32.kept (W' := wr.drew) HR.out rfl).set (k / 4) ((part32 s k (k / 4) <<< 8) ||| c.toUInt32) hl4
      rw [words0_step s k c hc] at hR2
      have hB2 := HB.out.drew.setCell (p := ⟨w.heap.size, k / 4, none⟩) (Nat.le_refl _) (.int .u32 (wv ((part32 s k (k / 4) <<< 8) ||| c.toUInt32)))
      have HR2 := Lib.hid hR2
      have HB2 := Lib.hid hB2
      have hc2 : wr.drew.cell? ⟨w.heap.size, k / 4, none⟩ = some (.int .u32 (wv (part32 s k (k / 4)))) := hcell
      have hf2 : wr.drew.frozen? ⟨w.heap.size, k / 4, none⟩ = false := hfz
      clear hR2 hB2 hl4 hcell hfz
      obtain ⟨w4, hw4'⟩ : ∃ w4, wr.drew = w4 := ⟨_, rfl⟩
      rw [hw4'] at HR2 HB2 hc2 hf2 ⊢
      clear hw4'
      go_wp2
      go_roundw
      case rel => exact ⟨k + 1, by omega, by go_num, HR2.out, HB2.out⟩
      case measure => simp [intOf]; omega
    · obtain rfl : k = 64 := by omega
      rw [show ((64 : Nat) : Int) = (64 : Int) from rfl]
      have hR1 := HR.out
      rw [words1_start s HS.out] at hR1
      have HR1 := Lib.hid hR1
      clear hR1 HR hk
      go_wp2_with fail
      go_loopw [6] (fun i wr => ∃ t : Nat, 16 ≤ t ∧ t ≤ 64 ∧ i = .int .i64 t ∧ Aside (Row32 wr w.heap.size (words1 s t)) ∧ Aside (Below w.heap.size w wr)) (fun i _ => 64 - (intOf i).toNat)
      case atStart => exact ⟨16, by omega, by omega, rfl, HR1.out, HB.out⟩
      case round =>
        clear HR1 HB
        obtain ⟨t, ht, ht2, rfl, HR, HB⟩ := hrel
        by_cases hlt : t < 64
        · have g1 : (16 : Int) ≤ t := by omega
          have g2 : (t : Int) < 64 := by omega
          have w1 : IntKind.i64.wrap ((t : Int) - 15) = (t : Int) - 15 := IntWalk.i64_in _ (by omega)
          have w2 : IntKind.i64.wrap ((t : Int) - 2) = (t : Int) - 2 := IntWalk.i64_in _ (by omega)
          have w3 : IntKind.i64.wrap ((t : Int) - 16) = (t : Int) - 16 := IntWalk.i64_in _ (by omega)
          have w4 : IntKind.i64.wrap ((t : Int) - 7) = (t : Int) - 7 := IntWalk.i64_in _ (by omega)
          have n1 : ((t : Int) - 15).toNat = t - 15 := by omega
          have n2 : ((t : Int) - 2).toNat = t - 2 := by omega
          have n3 : ((t : Int) - 16).toNat = t - 16 := by omega
          have n4 : ((t : Int) - 7).toNat = t - 7 := by omega
          have b1 : (0 : Int) ≤ (t : Int) - 15 := by omega
          have b2 : (0 : Int) ≤ (t : Int) - 2 := by omega
          have b3 : (0 : Int) ≤ (t : Int) - 16 := by omega
          have b4 : (0 : Int) ≤ (t : Int) - 7 := by omega
          have e1 : (15 : Int) ≤ t := by omega
          have e2 : (2 : Int) ≤ t := by omega
          have e4 : (7 : Int) ≤ t := by omega
          have d1 : (t : Int) - 15 < 64 := by omega
          have d2 : (t : Int) - 2 < 64 := by omega
          have d3 : (t : Int) - 16 < 64 := by omega
          have d4 : (t : Int) - 7 < 64 := by omega
          have c1 := HR.out.word (t - 15) (by omega) (by omega)
          have c2 := HR.out.word (t - 2) (by omega) (by omega)
          have c3 := HR.out.word (t - 16) (by omega) (by omega)
          have c4 := HR.out.word (t - 7) (by omega) (by omega)
          go_wp2_with fail
          go_quiet (fail)
          go_wp2_with fail
          have HR' := Lib.hid (Row32.kept (W' := wr.drewN nq) HR.out (by rw [World.heap_drewN]))
          have HB' := Lib.hid (Below.drewN HB.out nq)
          clear HR HB c1 c2 c3 c4
          have c3 := HR'.out.word (t - 16) (by omega) (by omega)
          have c4 := HR'.out.word (t - 7) (by omega) (by omega)
          obtain ⟨wq, hq⟩ : ∃ wq, wr.drewN nq = wq := ⟨_, rfl⟩
          rw [hq] at HR' HB' c3 c4 ⊢
          clear hq
          go_still_tail 29, (by kernel_rfl)
          still_call (turnS_7 _ _)
          repeat still_step
          still_call (turnS_18 _ _)
          repeat still_step
          still_call (turnS_17 _ _)
          repeat still_step
          still_call (turnS_19 _ _)
          repeat still_step
          refine wpStill_nil ?_
          change wpList _ _ _ _ _ wq.drew
          have hl4 : t < (words1 s t).length := by rw [words1_length]; omega
          have hc5 := HR'.out.1 t hl4
          have hf5 := HR'.out.2 t
          rw [words1_at, if_neg (Nat.lt_irrefl t)] at hc5
          have hx : wAt s (t - 16) + wAt s (t - 7) + sg0 (wAt s (t - 15)) + sg1 (wAt s (t - 2)) = wAt s t := (wAt_high s t ht).symm
          have hR2 := (Row32.kept (W' := wq.drew) HR'.out rfl).set t (wAt s t) hl4
          rw [words1_step s t, ← hx] at hR2
          unfold sg0 sg1 at hR2
          have hB2 := HB'.out.drew.setCell (p := ⟨w.heap.size, t, none⟩) (Nat.le_refl _) (.int .u32 (wv (wAt s (t - 16) + wAt s (t - 7) + ((rotr (wAt s (t - 15)) 7 ^^^ rotr (wAt s (t - 15)) 18) ^^^ (wAt s (t - 15) >>> 3)) + ((rotr (wAt s (t - 2)) 17 ^^^ rotr (wAt s (t - 2)) 19) ^^^ (wAt s (t - 2) >>> 10)))))
          have HR2 := Lib.hid hR2
          have HB2 := Lib.hid hB2
          have hc2 : wq.drew.cell? ⟨w.heap.size, t, none⟩ = some (.int .u32 (wv 0)) := hc5
          have hf2 : wq.drew.frozen? ⟨w.heap.size, t, none⟩ = false := hf5
          clear hR2 hB2 hl4 hc5 hf5 hx c3 c4
          obtain ⟨w5, hw5'⟩ : ∃ w5, wq.drew = w5 := ⟨_, rfl⟩
          rw [hw5'] at HR2 HB2 hc2 hf2 ⊢
          clear hw5'
          go_wp2
          go_roundw
          case rel => exact ⟨t + 1, by omega, by omega, by go_num, HR2.out, HB2.out⟩
          case measure => simp [intOf]; omega
        · obtain rfl : t = 64 := by omega
          rw [show ((64 : Nat) : Int) = (64 : Int) from rfl]
          have hh := hH.below HB.out (by simp [St.list])
          have h0 := hh.1 0 (by simp [St.list])
          have h1 := hh.1 1 (by simp [St.list])
          have h2 := hh.1 2 (by simp [St.list])
          have h3 := hh.1 3 (by simp [St.list])
          have h4 := hh.1 4 (by simp [St.list])
          have h5 := hh.1 5 (by simp [St.list])
          have h6 := hh.1 6 (by simp [St.list])
          have h7 := hh.1 7 (by simp [St.list])
          simp only [St.list, List.getElem_cons_zero, List.getElem_cons_succ] at h0 h1 h2 h3 h4 h5 h6 h7
          have HH := Lib.hid hH
          have HK := Lib.hid hK
          clear hh hH hK
          go_wp2_with fail
          go_quiet (fail)
          go_wp2_with fail
          have HR' := Lib.hid (Row32.kept (W' := wr.drewN nq) HR.out (by rw [World.heap_drewN]))
          have HB' := Lib.hid (Below.drewN HB.out nq)
          obtain ⟨wq, hq⟩ : ∃ wq, wr.drewN nq = wq := ⟨_, rfl⟩
          rw [hq] at HR' HB' ⊢
          clear hq HR HB h0 h1 h2 h3 h4 h5 h6 h7
          go_loopw [9, 10, 11, 12, 13, 14, 15, 16, 112] (fun a b c d e f g h i wr => ∃ n : Nat, n ≤ 64 ∧ i = .int .i64 n ∧ a = .int .u32 (wv (rounds s st n).a) ∧ b = .int .u32 (wv (rounds s st n).b) ∧ c = .int .u32 (wv (rounds s st n).c) ∧ d = .int .u32 (wv (rounds s st n).d) ∧
            e = .int .u32 (wv (rounds s st n).e) ∧ f = .int .u32 (wv (rounds s st n).f) ∧ g = .int .u32 (wv (rounds s st n).g) ∧ h = .int .u32 (wv (rounds s st n).h) ∧ Aside (Row32 wr w.heap.size (words1 s 64)) ∧ Aside (Below w.heap.size w wr)) (fun _ _ _ _ _ _ _ _ i _ => 64 - (intOf i).toNat)
          case atStart => exact ⟨0, by omega, rfl, rfl, rfl, rfl, rfl, rfl, rfl, rfl, rfl, HR'.out, HB'.out⟩
          case round =>
            clear HR' HB'
            obtain ⟨n, hn, rfl, rfl, rfl, rfl, rfl, rfl, rfl, rfl, rfl, HR, HB⟩ := hrel
            by_cases hlt : n < 64
            · have g1 : (0 : Int) ≤ n := by omega
              have g2 : (n : Int) < 64 := by omega
              have c1 := HR.out.word n hlt hlt
              have c2 := (HK.out.below HB.out) n hlt
              obtain ⟨r, hr⟩ : ∃ r, rounds s st n = r := ⟨_, rfl⟩
              have hr2 : rounds s st (n + 1) = r.step (kAt n) (wAt s n) := by rw [rounds, hr]
              rw [hr]
              have HR2 := Lib.hid hr2
              clear hr2 hr
              go_wp2_with fail
              go_quiet ((go_at_call 235; exact Calls.quiet_of_same (turnzS _ _ _ (by decide))))
              go_wp2_with (go_at_call 235; refine (turnz _ _ _ (by decide)).mono ?_; rintro e w' ⟨rfl, rfl⟩)
              go_roundw
              case rel => exact ⟨n + 1, by omega, by go_num, by rw [HR2.out]; rfl, by rw [HR2.out]; rfl, by rw [HR2.out]; rfl, by rw [HR2.out]; rfl, by rw [HR2.out]; rfl, by rw [HR2.out]; rfl, by rw [HR2.out]; rfl, by rw [HR2.out]; rfl, Row32.kept HR.out (by rw [World.heap_drewN]), Below.drewN HB.out _⟩
              case measure => simp [intOf]; omega
            · obtain rfl : n = 64 := by omega
              rw [show ((64 : Nat) : Int) = (64 : Int) from rfl]
              go_wp2_with fail
              have hg0 : w.grownBy wr (some hb) := ⟨HB.out.os, HB.out.tape, HB.out.output, HB.out.size, fun i hi _ => HB.out.block i hi⟩
              have hm0 : Row32 wr hb (mix st.list (rounds s st 64).list 0) := HH.out.below HB.out (by simp [St.list])
              have HG0 := Lib.hid hg0
              have HM0 := Lib.hid hm0
              obtain ⟨r, hr⟩ : ∃ r, rounds s st 64 = r := ⟨_, rfl⟩
              have hdone := mix_done st s
              rw [hr] at hdone HM0 ⊢
              have HD := Lib.hid hdone
              clear hg0 hm0 hr hdone HR HB
              go_loopw [181] (fun i wr => ∃ n : Nat, n ≤ 8 ∧ i = .int .i64 n ∧ Aside (Row32 wr hb (mix st.list r.list n)) ∧ Aside (w.grownBy wr (some hb))) (fun i _ => 8 - (intOf i).toNat)
              case atStart => exact ⟨0, by omega, rfl, HM0.out, HG0.out⟩
              case round =>
                clear HM0 HG0
                obtain ⟨n, hn, rfl, HR, HG⟩ := hrel
                by_cases hlt : n < 8
                · have hc := HR.out.1 n (by rw [mix_length]; exact hlt)
                  rw [mix_at] at hc
                  have hf := HR.out.2 n
                  have hR2 := (Row32.kept (W' := wr.drew) HR.out rfl).set n (st.list.getD n 0 + r.list.getD n 0) (by rw [mix_length]; exact hlt)
                  rw [mix_step] at hR2
                  have HR2 := Lib.hid hR2
                  clear hR2
                  rcases (by omega : n = 0 ∨ n = 1 ∨ n = 2 ∨ n = 3 ∨ n = 4 ∨ n = 5 ∨ n = 6 ∨ n = 7) with rfl | rfl | rfl | rfl | rfl | rfl | rfl | rfl
                  · have hix : ∀ W, (Instr.index 297 (.agg #[.int .u32 (wv r.a), .int .u32 (wv r.b), .int .u32 (wv r.c), .int .u32 (wv r.d), .int .u32 (wv r.e), .int .u32 (wv r.f), .int .u32 (wv r.g), .int .u32 (wv r.h)]) (.int .i64 0)).run Tryz.prog W = .ok (.int .u32 (wv r.a)) W := fun _ => by kernel_rfl
                    go_wp2_with fail
                    go_still_tail 9, (by kernel_rfl)
                    change wpList _ _ _ _ _ wr.drew
                    have hc2 : wr.drew.cell? ⟨hb, 0, none⟩ = some (.int .u32 (wv st.a)) := hc
                    have hf2 : wr.drew.frozen? ⟨hb, 0, none⟩ = false := hf
                    have hg2 := Lib.hid (grown_set (grown_drew HG.out) 0 (.int .u32 (wv (st.a + r.a))))
                    have hr2 : Row32 (wr.drew.setCell ⟨hb, 0, none⟩ (.int .u32 (wv (st.a + r.a)))) hb (mix st.list r.list 1) := HR2.out
                    have Hr2 := Lib.hid hr2
                    clear hr2 HR2 hc hf
                    obtain ⟨w5, hw5⟩ : ∃ w5, wr.drew = w5 := ⟨_, rfl⟩
                    rw [hw5] at Hr2 hg2 hc2 hf2 ⊢
                    clear hw5
                    go_wp2
                    go_roundw
                    case rel => exact ⟨1, by omega, rfl, Hr2.out, hg2.out⟩
                    case measure => simp [intOf]
                  · have hix : ∀ W, (Instr.index 297 (.agg #[.int .u32 (wv r.a), .int .u32 (wv r.b), .int .u32 (wv r.c), .int .u32 (wv r.d), .int .u32 (wv r.e), .int .u32 (wv r.f), .int .u32 (wv r.g), .int .u32 (wv r.h)]) (.int .i64 1)).run Tryz.prog W = .ok (.int .u32 (wv r.b)) W := fun _ => by kernel_rfl
                    go_wp2_with fail
                    go_still_tail 9, (by kernel_rfl)
                    change wpList _ _ _ _ _ wr.drew
                    have hc2 : wr.drew.cell? ⟨hb, 1, none⟩ = some (.int .u32 (wv st.b)) := hc
                    have hf2 : wr.drew.frozen? ⟨hb, 1, none⟩ = false := hf
                    have hg2 := Lib.hid (grown_set (grown_drew HG.out) 1 (.int .u32 (wv (st.b + r.b))))
                    have hr2 : Row32 (wr.drew.setCell ⟨hb, 1, none⟩ (.int .u32 (wv (st.b + r.b)))) hb (mix st.list r.list 2) := HR2.out
                    have Hr2 := Lib.hid hr2
                    clear hr2 HR2 hc hf
                    obtain ⟨w5, hw5⟩ : ∃ w5, wr.drew = w5 := ⟨_, rfl⟩
                    rw [hw5] at Hr2 hg2 hc2 hf2 ⊢
                    clear hw5
                    go_wp2
                    go_roundw
                    case rel => exact ⟨2, by omega, rfl, Hr2.out, hg2.out⟩
                    case measure => simp [intOf]
                  · have hix : ∀ W, (Instr.index 297 (.agg #[.int .u32 (wv r.a), .int .u32 (wv r.b), .int .u32 (wv r.c), .int .u32 (wv r.d), .int .u32 (wv r.e), .int .u32 (wv r.f), .int .u32 (wv r.g), .int .u32 (wv r.h)]) (.int .i64 2)).run Tryz.prog W = .ok (.int .u32 (wv r.c)) W := fun _ => by kernel_rfl
                    go_wp2_with fail
                    go_still_tail 9, (by kernel_rfl)
                    change wpList _ _ _ _ _ wr.drew
                    have hc2 : wr.drew.cell? ⟨hb, 2, none⟩ = some (.int .u32 (wv st.c)) := hc
                    have hf2 : wr.drew.frozen? ⟨hb, 2, none⟩ = false := hf
                    have hg2 := Lib.hid (grown_set (grown_drew HG.out) 2 (.int .u32 (wv (st.c + r.c))))
                    have hr2 : Row32 (wr.drew.setCell ⟨hb, 2, none⟩ (.int .u32 (wv (st.c + r.c)))) hb (mix st.list r.list 3) := HR2.out
                    have Hr2 := Lib.hid hr2
                    clear hr2 HR2 hc hf
                    obtain ⟨w5, hw5⟩ : ∃ w5, wr.drew = w5 := ⟨_, rfl⟩
                    rw [hw5] at Hr2 hg2 hc2 hf2 ⊢
                    clear hw5
                    go_wp2
                    go_roundw
                    case rel => exact ⟨3, by omega, rfl, Hr2.out, hg2.out⟩
                    case measure => simp [intOf]
                  · have hix : ∀ W, (Instr.index 297 (.agg #[.int .u32 (wv r.a), .int .u32 (wv r.b), .int .u32 (wv r.c), .int .u32 (wv r.d), .int .u32 (wv r.e), .int .u32 (wv r.f), .int .u32 (wv r.g), .int .u32 (wv r.h)]) (.int .i64 3)).run Tryz.prog W = .ok (.int .u32 (wv r.d)) W := fun _ => by kernel_rfl
                    go_wp2_with fail
                    go_still_tail 9, (by kernel_rfl)
                    change wpList _ _ _ _ _ wr.drew
                    have hc2 : wr.drew.cell? ⟨hb, 3, none⟩ = some (.int .u32 (wv st.d)) := hc
                    have hf2 : wr.drew.frozen? ⟨hb, 3, none⟩ = false := hf
                    have hg2 := Lib.hid (grown_set (grown_drew HG.out) 3 (.int .u32 (wv (st.d + r.d))))
                    have hr2 : Row32 (wr.drew.setCell ⟨hb, 3, none⟩ (.int .u32 (wv (st.d + r.d)))) hb (mix st.list r.list 4) := HR2.out
                    have Hr2 := Lib.hid hr2
                    clear hr2 HR2 hc hf
                    obtain ⟨w5, hw5⟩ : ∃ w5, wr.drew = w5 := ⟨_, rfl⟩
                    rw [hw5] at Hr2 hg2 hc2 hf2 ⊢
                    clear hw5
                    go_wp2
                    go_roundw
                    case rel => exact ⟨4, by omega, rfl, Hr2.out, hg2.out⟩
                    case measure => simp [intOf]
                  · have hix : ∀ W, (Instr.index 297 (.agg #[.int .u32 (wv r.a), .int .u32 (wv r.b), .int .u32 (wv r.c), .int .u32 (wv r.d), .int .u32 (wv r.e), .int .u32 (wv r.f), .int .u32 (wv r.g), .int .u32 (wv r.h)]) (.int .i64 4)).run Tryz.prog W = .ok (.int .u32 (wv r.e)) W := fun _ => by kernel_rfl
                    go_wp2_with fail
                    go_still_tail 9, (by kernel_rfl)
                    change wpList _ _ _ _ _ wr.drew
                    have hc2 : wr.drew.cell? ⟨hb, 4, none⟩ = some (.int .u32 (wv st.e)) := hc
                    have hf2 : wr.drew.frozen? ⟨hb, 4, none⟩ = false := hf
                    have hg2 := Lib.hid (grown_set (grown_drew HG.out) 4 (.int .u32 (wv (st.e + r.e))))
                    have hr2 : Row32 (wr.drew.setCell ⟨hb, 4, none⟩ (.int .u32 (wv (st.e + r.e)))) hb (mix st.list r.list 5) := HR2.out
                    have Hr2 := Lib.hid hr2
                    clear hr2 HR2 hc hf
                    obtain ⟨w5, hw5⟩ : ∃ w5, wr.drew = w5 := ⟨_, rfl⟩
                    rw [hw5] at Hr2 hg2 hc2 hf2 ⊢
                    clear hw5
                    go_wp2
                    go_roundw
                    case rel => exact ⟨5, by omega, rfl, Hr2.out, hg2.out⟩
                    case measure => simp [intOf]
                  · have hix : ∀ W, (Instr.index 297 (.agg #[.int .u32 (wv r.a), .int .u32 (wv r.b), .int .u32 (wv r.c), .int .u32 (wv r.d), .int .u32 (wv r.e), .int .u32 (wv r.f), .int .u32 (wv r.g), .int .u32 (wv r.h)]) (.int .i64 5)).run Tryz.prog W = .ok (.int .u32 (wv r.f)) W := fun _ => by kernel_rfl
                    go_wp2_with fail
                    go_still_tail 9, (by kernel_rfl)
                    change wpList _ _ _ _ _ wr.drew
                    have hc2 : wr.drew.cell? ⟨hb, 5, none⟩ = some (.int .u32 (wv st.f)) := hc
                    have hf2 : wr.drew.frozen? ⟨hb, 5, none⟩ = false := hf
                    have hg2 := Lib.hid (grown_set (grown_drew HG.out) 5 (.int .u32 (wv (st.f + r.f))))
                    have hr2 : Row32 (wr.drew.setCell ⟨hb, 5, none⟩ (.int .u32 (wv (st.f + r.f)))) hb (mix st.list r.list 6) := HR2.out
                    have Hr2 := Lib.hid hr2
                    clear hr2 HR2 hc hf
                    obtain ⟨w5, hw5⟩ : ∃ w5, wr.drew = w5 := ⟨_, rfl⟩
                    rw [hw5] at Hr2 hg2 hc2 hf2 ⊢
                    clear hw5
                    go_wp2
                    go_roundw
                    case rel => exact ⟨6, by omega, rfl, Hr2.out, hg2.out⟩
                    case measure => simp [intOf]
                  · have hix : ∀ W, (Instr.index 297 (.agg #[.int .u32 (wv r.a), .int .u32 (wv r.b), .int .u32 (wv r.c), .int .u32 (wv r.d), .int .u32 (wv r.e), .int .u32 (wv r.f), .int .u32 (wv r.g), .int .u32 (wv r.h)]) (.int .i64 6)).run Tryz.prog W = .ok (.int .u32 (wv r.g)) W := fun _ => by kernel_rfl
                    go_wp2_with fail
                    go_still_tail 9, (by kernel_rfl)
                    change wpList _ _ _ _ _ wr.drew
                    have hc2 : wr.drew.cell? ⟨hb, 6, none⟩ = some (.int .u32 (wv st.g)) := hc
                    have hf2 : wr.drew.frozen? ⟨hb, 6, none⟩ = false := hf
                    have hg2 := Lib.hid (grown_set (grown_drew HG.out) 6 (.int .u32 (wv (st.g + r.g))))
                    have hr2 : Row32 (wr.drew.setCell ⟨hb, 6, none⟩ (.int .u32 (wv (st.g + r.g)))) hb (mix st.list r.list 7) := HR2.out
                    have Hr2 := Lib.hid hr2
                    clear hr2 HR2 hc hf
                    obtain ⟨w5, hw5⟩ : ∃ w5, wr.drew = w5 := ⟨_, rfl⟩
                    rw [hw5] at Hr2 hg2 hc2 hf2 ⊢
                    clear hw5
                    go_wp2
                    go_roundw
                    case rel => exact ⟨7, by omega, rfl, Hr2.out, hg2.out⟩
                    case measure => simp [intOf]
                  · have hix : ∀ W, (Instr.index 297 (.agg #[.int .u32 (wv r.a), .int .u32 (wv r.b), .int .u32 (wv r.c), .int .u32 (wv r.d), .int .u32 (wv r.e), .int .u32 (wv r.f), .int .u32 (wv r.g), .int .u32 (wv r.h)]) (.int .i64 7)).run Tryz.prog W = .ok (.int .u32 (wv r.h)) W := fun _ => by kernel_rfl
                    go_wp2_with fail
                    go_still_tail 9, (by kernel_rfl)
                    change wpList _ _ _ _ _ wr.drew
                    have hc2 : wr.drew.cell? ⟨hb, 7, none⟩ = some (.int .u32 (wv st.h)) := hc
                    have hf2 : wr.drew.frozen? ⟨hb, 7, none⟩ = false := hf
                    have hg2 := Lib.hid (grown_set (grown_drew HG.out) 7 (.int .u32 (wv (st.h + r.h))))
                    have hr2 : Row32 (wr.drew.setCell ⟨hb, 7, none⟩ (.int .u32 (wv (st.h + r.h)))) hb (mix st.list r.list 8) := HR2.out
                    have Hr2 := Lib.hid hr2
                    clear hr2 HR2 hc hf
                    obtain ⟨w5, hw5⟩ : ∃ w5, wr.drew = w5 := ⟨_, rfl⟩
                    rw [hw5] at Hr2 hg2 hc2 hf2 ⊢
                    clear hw5
                    go_wp2
                    go_roundw
                    case rel => exact ⟨8, by omega, rfl, Hr2.out, hg2.out⟩
                    case measure => simp [intOf]
                · obtain rfl : n = 8 := by omega
                  go_wp2_with fail
                  go_end0
                  exact ⟨⟨_, rfl⟩, by rw [← HD.out]; exact HR.out, HG.out⟩
end Go.Proofs.YtpfmdhcmhcoddaaGreatDoor
