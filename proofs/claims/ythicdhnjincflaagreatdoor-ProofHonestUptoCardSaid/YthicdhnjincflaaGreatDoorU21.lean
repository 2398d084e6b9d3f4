/- What the walks take: NibsA, NibsB. -/
import Derived.Test.YthicdhnjincflaaGreatDoorU0
import Derived.Test.YthicdhnjincflaaGreatDoorU3
import Derived.Test.YthicdhnjincflaaGreatDoorChecked
import Derived.WalkSpells
import Derived.WalkLawsBesides
import Derived.Deep.QuietTactic
import Derived.BigQuiet
import Derived.StillTailTactics
import Derived.Deep.RegionLaw
import Derived.Outline
namespace Go.Proofs.YthicdhnjincflaaGreatDoor
open Go.RowKit
theorem infoByte' : (Tryz.prog.info? 5).map (fun i => (i.zero, i.size, i.bytes)) = some (some (.int .u8 0), 1, 1) := by kernel_rfl
set_option maxHeartbeats 400000 in
theorem common_any (a b : ByteArray) (w : World) (ha : a.size ≤ 4294967296) (hb : b.size ≤ 4294967296) :
    Calls Tryz.prog 56 #[.string a, .string b] w fun e w' => e = .returned (.int .i64 (common a.data.toList b.data.toList)) ∧ Below w.heap.size w w' := by
  by_cases hab : b.size < a.size
  all_goals
    go_enter Tryz.func56, Tryz.ntmps56
    go_wp2
    go_loopw [6, 13] (fun _ i wr => ∃ k : Nat, k ≤ a.size ∧ k ≤ b.size ∧ i = .int .i64 k ∧ (∀ i, i < k → a.data.toList[i]? = b.data.toList[i]?) ∧ Below w.heap.size w wr) (fun _ i _ => a.size - (intOf i).toNat)
    case atStart => exact ⟨0, by omega, by omega, rfl, by omega, Below.refl _ _⟩
    case round =>
      obtain ⟨k, hk1, hk2, rfl, heq, hB⟩ := hrel
      have Heq := Lib.hid heq
      clear heq
      by_cases hlt : k < a.size ∧ k < b.size
      · obtain ⟨h1, h2⟩ := hlt
        have g1 : (0 : Int) ≤ k := by omega
        go_wp2
        go_quiet (fail)
        go_wp2
        · go_ret
          rw [common_ne Heq.out h1 h2 (by assumption)]
          exact ⟨rfl, Below.drewN hB _⟩
        · go_roundw
          case rel => exact ⟨k + 1, by omega, by omega, by go_num, alike_succ Heq.out h1 h2 (by assumption), Below.drewN hB _⟩
          case measure => simp [intOf]; omega
      · have hc := common_end Heq.out hk1 hk2 hlt
        have Hc := Lib.hid hc
        clear hc Heq
        have hm : (k = b.size ∧ b.size < a.size) ∨ (k = a.size ∧ ¬ b.size < a.size) := by omega
        clear hlt
        rcases hm with ⟨hm, h2⟩ | ⟨hm, h2⟩
        all_goals
          first
            | (exfalso; omega; done)
            | (have h3 : ¬ k < (if b.size < a.size then b.size else a.size) := by split <;> omega
               first
                 | rw [if_pos hab] at h3
                 | rw [if_neg hab] at h3
               have Hm := Lib.hid hm
               clear hm h2
               go_wp2
               go_ret
               refine ⟨?_, hB⟩
               rw [Hc.out]
               exact congrArg (fun n : Nat => Ending.returned (.int .i64 (n : Int))) Hm.out.symm)
set_option maxHeartbeats 800000 in
set_option maxRecDepth 100000 in
theorem commonRef_any (a b : ByteArray) (w : World) (ha : a.size ≤ 4294967296) (hb : b.size ≤ 4294967296) :
    Calls Tryz.prog 98 #[.string a, .string b] w fun e w' => e = .returned (.int .i64 (common a.data.toList b.data.toList)) ∧ Below w.heap.size w w' := by
  go_enter Tryz.func98, Tryz.ntmps98
  go_wp2
  go_loopw [5] (fun i wr => ∃ k : Nat, k ≤ a.size ∧ k ≤ b.size ∧ i = .int .i64 k ∧ (∀ i, i < k → a.data.toList[i]? = b.data.toList[i]?) ∧ Below w.heap.size w wr) (fun i _ => a.size - (intOf i).toNat)
  case atStart => exact ⟨0, by omega, by omega, rfl, by omega, Below.refl _ _⟩
  case round =>
    obtain ⟨k, hk1, hk2, rfl, heq, hB⟩ := hrel
    have Heq := Lib.hid heq
    clear heq
    have g1 : (0 : Int) ≤ k := by omega
    go_wp2
    by_cases h1 : k < a.size
    · by_cases h2 : k < b.size
      · go_quiet (fail)
        go_wp2
        · go_roundw
          case rel => exact ⟨k + 1, by omega, by omega, by go_num, alike_succ Heq.out h1 h2 (by simp_all), Below.drewN hB _⟩
          case measure => simp [intOf]; omega
        · go_ret
          rw [common_ne Heq.out h1 h2 (by simp_all)]
          exact ⟨rfl, Below.drewN hB _⟩
      · have d2 : decide (k < b.size) = false := by simpa using h2
        go_quiet (fail)
        go_wp2
        go_ret
        rw [common_end Heq.out hk1 hk2 (by omega)]
        exact ⟨rfl, Below.drewN hB _⟩
    · have d1 : decide (k < a.size) = false := by simpa using h1
      go_quiet (fail)
      go_wp2
      go_ret
      rw [common_end Heq.out hk1 hk2 (by omega)]
      exact ⟨rfl, Below.drewN hB _⟩
set_option maxRecDepth 100000 in
set_option maxHeartbeats 800000 in
theorem ofRef_any (s : ByteArray) (w : World) (hs : s.size ≤ 4294967296) :
    Calls Tryz.prog 40 #[.string s] w fun e w' => e = .returned (.string ⟨(halves s.data.toList).toArray⟩) ∧ Below w.heap.size w w' := by
  go_enter Tryz.func40, Tryz.ntmps40
  go_wp2
  go_loopw [3, 4] (fun v i wr => ∃ k : Nat, k ≤ s.size ∧ i = .int .i64 k ∧ OwnB 5 w.heap.size wr v (halves (s.data.toList.take k)) ∧ Below w.heap.size w wr) (fun _ i _ => s.size - (intOf i).toNat)
  case atStart => exact ⟨0, by omega, rfl, by simpa [halves] using OwnB.nil _ _ _, Below.refl _ _⟩
  case round =>
    obtain ⟨k, hk1, rfl, hown, hB⟩ := hrel
    have g1 : (0 : Int) ≤ k := by omega
    by_cases hlt : k < s.size
    · have e1 := u8_hi s[k]
      have e2 := u8_lo s[k]
      have hz := hB.size
      have hl := halves_length (s.data.toList.take k)
      rw [List.length_take, len_data] at hl
      have Hl := Lib.hid hl
      clear hl
      go_wp2
      have hcn := cells_new wr.drew (Lib.byteCells [hiN s[k], loN s[k]]) 5
      have Hcn := Lib.hid hcn
      have hrow := fun k hk => (hown.lt k hk).1
      clear hcn
      have hown2 := (OwnB.drew hown).alloc (.cells (Lib.byteCells [hiN s[k], loN s[k]]).toArray 5)
      have Hown2 := Lib.hid hown2
      clear hown2
      go_region_law (refine step_appendB rfl (.tmp 11) (.tmp 20) 60 rfl w.heap.size 5 Tryz.underlying60 infoByte' _ _ (by simp [Act.eval]) Hown2.out ⟨wr.heap.size, 0, none⟩ 2 2 [hiN s[k], loN s[k]] (by simp [Act.eval]) rfl Hcn.out (by have := Hl.out; omega) (by simp; omega) ?_; intro v' w3 hown3 hg3)
      all_goals
        clear Hcn Hown2 hown
        go_wp2
        go_roundw
        case rel =>
          refine ⟨k + 1, by omega, by go_num, ?_, (hB.alloc hz _).drew.grown hg3 (by simp; omega) hrow⟩
          rw [take_snoc s k hlt, halves_append, halves_one]
          exact hown3
        case measure => simp [intOf]; omega
    · have hc := hown.str (P := Tryz.prog) Tryz.underlying60 Tryz.underlying5 Tryz.underlying9
      rw [take_all s k (by omega)] at hc
      go_wp2
      go_ret
      exact ⟨rfl, hB⟩
set_option maxHeartbeats 400000 in
theorem isPathRef_any (s : ByteArray) (w : World) (hs : s.size ≤ 4294967296) :
    Calls Tryz.prog 119 #[.string s] w fun e w' => e = .returned (.bool (isPath s.data.toList)) ∧ Below w.heap.size w w' := by
  go_enter Tryz.func119, Tryz.ntmps119
  go_wp2
  go_loopw [3] (fun i wr => ∃ k : Nat, k ≤ s.size ∧ i = .int .i64 k ∧ (∀ i (hi : i < s.size), i < k → (s[i].toNat : Int) ≤ 15) ∧ Below w.heap.size w wr) (fun i _ => s.size - (intOf i).toNat)
  case atStart => exact ⟨0, by omega, rfl, by omega, Below.refl _ _⟩
  case round =>
    obtain ⟨k, hk1, rfl, hall, hB⟩ := hrel
    have Hall := Lib.hid hall
    clear hall
    have g1 : (0 : Int) ≤ k := by omega
    by_cases hlt : k < s.size
    · by_cases hb : 15 < (s[k].toNat : Int)
      · have hf := isPath_false s k hlt hb
        have Hf := Lib.hid hf
        clear hf
        go_wp2
        go_ret
        rw [Hf.out]
        exact ⟨rfl, hB⟩
      · have hs' := isPath_step Hall.out hlt (by omega)
        have Hs := Lib.hid hs'
        clear hs'
        go_wp2
        go_roundw
        case rel => exact ⟨k + 1, by omega, by go_num, Hs.out, hB⟩
        case measure => simp [intOf]; omega
    · have ht := isPath_true s (fun i hi => Hall.out i hi (by omega))
      have Ht := Lib.hid ht
      clear ht
      go_wp2
      go_ret
      rw [Ht.out]
      exact ⟨rfl, hB⟩
end Go.Proofs.YthicdhnjincflaaGreatDoor

namespace Go.Proofs.YthicdhnjincflaaGreatDoor
open Go.RowKit
theorem pairUp_all {L : List UInt8} {m : Nat} (h : ¬ m < L.length) : pairUp (L.take m) = pairUp L := by rw [List.take_of_length_le (by omega)]
theorem pairUp_len (L : List UInt8) (m : Nat) : (pairUp (L.take m)).length ≤ m := by
  have h : ∀ l : List UInt8, (pairUp l).length ≤ l.length := by
    intro l
    induction l using pairUp.induct with
    | case1 a b r ih => simp [pairUp]; omega
    | case2 l hl =>
      match l, hl with
      | [], _ => simp [pairUp]
      | [a], _ => simp [pairUp]
      | a :: b :: r, hl => exact (hl a b r rfl).elim
  have := h (L.take m)
  rw [List.length_take] at this
  omega
set_option maxRecDepth 100000 in
set_option maxHeartbeats 1600000 in
theorem formRef_any (s : ByteArray) (leaf : Bool) (w : World) (hs : s.size ≤ 1073741824) :
    Calls Tryz.prog 97 #[.string s, .bool leaf] w fun e w' => e = .returned (formV s.data.toList leaf) ∧ Below w.heap.size w w' := by
  by_cases hp : isPath s.data.toList = true
  · have Hf : Hid (formV s.data.toList leaf = .tuple #[.string ⟨(pairUp (formHalves s.data.toList leaf)).toArray⟩, .int .i64 0]) := formV_of (by unfold form; rw [if_pos hp])
    obtain ⟨L, hL⟩ : ∃ L, formHalves s.data.toList leaf = L := ⟨_, rfl⟩
    rw [hL] at Hf
    by_cases ho : s.size % 2 = 1
    · have ho' : ((s.size : Int) % 2 == 1) = true := by simp; omega
      have hL0 : L = (if leaf then 3 else 1) :: s.data.toList := by rw [← hL]; unfold formHalves; rw [len_data, if_pos ho]
      have hLe : L.length % 2 = 0 := by rw [hL0]; simp only [List.length_cons, len_data]; omega
      have hLb : L.length ≤ 1073741826 := by rw [hL0]; simp only [List.length_cons, len_data]; omega
      have hL2 : 0 < L.length := by rw [hL0]; simp
      have HL0 := Lib.hid hL0
      have HLe := Lib.hid hLe
      clear hL0 hLe hL ho
      cases leaf
      all_goals
        go_enter Tryz.func97, Tryz.ntmps97
        go_wp2_with fail
        refine (isPathRef_any s _ (by omega)).mono ?_
        rintro e w1 ⟨rfl, hb1⟩
        have hz1 := hb1.size
        have l1 : OwnB 5 w.heap.size (w1.alloc (.cells #[.int .u8 1] 5)) (.slice (some ⟨w1.heap.size, 0, none⟩) 1 1) [1] := OwnB.lit w1 [1] hz1 (by decide)
        have l3 : OwnB 5 w.heap.size (w1.alloc (.cells #[.int .u8 3] 5)) (.slice (some ⟨w1.heap.size, 0, none⟩) 1 1) [3] := OwnB.lit w1 [3] hz1 (by decide)
        go_wp2_with (at_builtin; first | refine wpList_appendS rfl _ _ 60 9 rfl w.heap.size 5 Tryz.underlying60 Tryz.underlying9 infoByte' _ [1] rfl l1 s rfl ?c1 ?c2 ?_ | refine wpList_appendS rfl _ _ 60 9 rfl w.heap.size 5 Tryz.underlying60 Tryz.underlying9 infoByte' _ [3] rfl l3 s rfl ?c1 ?c2 ?_)
        case c1 => simp; omega
        case c2 => simp; omega
        clear l1 l3
        intro v w4 hown hg4
        have hB4 := ((hb1.alloc hz1 _).grown hg4 (by simp; omega) (fun k hk => by cases hk; exact hz1))
        clear hg4
        have hown' : OwnB 5 w.heap.size w4 v L := by rw [HL0.out]; exact hown
        have hLe := HLe.out
        clear HL0 HLe hown
        obtain ⟨g, c, rfl, hgb, hgs, hcell, _⟩ := hown'.opened hL2
        clear hown'
        have Hcell := Lib.hid hcell
        clear hcell
        go_wp2
        go_loopw [8, 9] (fun v i wr => ∃ m : Nat, m ≤ L.length ∧ m % 2 = 0 ∧ i = .int .i64 m ∧ OwnB 5 w4.heap.size wr v (pairUp (L.take m)) ∧ Below w4.heap.size w4 wr) (fun _ i _ => L.length - (intOf i).toNat)
        case atStart => exact ⟨0, by omega, by omega, rfl, by simpa [pairUp] using OwnB.nil _ _ _, Below.refl _ _⟩
        case round =>
          obtain ⟨m, hm1, hm2, rfl, hown, hB⟩ := hrel
          have g1 : (0 : Int) ≤ m := by omega
          by_cases hlt : m < L.length
          · have hlt1 : m + 1 < L.length := by omega
            have hc0 : wr.cell? ⟨g, m, none⟩ = some (.int .u8 L[m].toNat) := (hB.cell (p := ⟨g, m, none⟩) hgs).trans (Hcell.out m hlt)
            have hc1 : wr.cell? ⟨g, m + 1, none⟩ = some (.int .u8 L[m + 1].toNat) := (hB.cell (p := ⟨g, m + 1, none⟩) hgs).trans (Hcell.out (m + 1) hlt1)
            have hz := hB.size
            have Hle : Hid ((pairUp (L.take m)).length ≤ m) := pairUp_len L m
            have hcn := cells_new wr.drew (Lib.byteCells [joinN L[m] L[m + 1]]) 5
            have Hcn := Lib.hid hcn
            have hrow := fun k hk => (hown.lt k hk).1
            clear hcn
            have hown2 := (OwnB.drew hown).alloc (.cells (Lib.byteCells [joinN L[m] L[m + 1]]).toArray 5)
            have Hown2 := Lib.hid hown2
            clear hown2
            have e1 := u8_join L[m] L[m + 1]
            have hwr : IntKind.i64.wrap ((m : Int) + 1) = (m : Int) + 1 := by rw [IntKind.wrap_i64]; omega
            have hnn : ((m : Int) + 1).toNat = m + 1 := by omega
            have g2 : (0 : Int) ≤ (m : Int) + 1 := by omega
            have g3 : (m : Int) + 1 < (L.length : Int) := by omega
            have g4 : (m : Int) < (L.length : Int) := by omega
            go_wp2
            go_region_law (refine step_appendB rfl (.tmp 36) (.tmp 48) 60 rfl w4.heap.size 5 Tryz.underlying60 infoByte' _ _ (by simp [Act.eval]) Hown2.out ⟨wr.heap.size, 0, none⟩ 1 1 [joinN L[m] L[m + 1]] (by simp [Act.eval]) rfl Hcn.out (by have := Hle.out; omega) (by simp; omega) ?_; intro v' w5 hown5 hg5)
            all_goals
              clear Hcn Hown2 hown e1 hwr hnn
              go_wp2
              go_roundw
              case rel =>
                refine ⟨m + 2, by omega, by omega, by go_num, ?_, (hB.alloc hz _).drew.grown hg5 (by simp; omega) hrow⟩
                rw [pairUp_step hm2 hlt1]
                exact hown5
              case measure => simp [intOf]; omega
          · have hc := hown.str (P := Tryz.prog) Tryz.underlying60 Tryz.underlying5 Tryz.underlying9
            rw [pairUp_all hlt] at hc
            go_wp2
            go_ret2
            refine ⟨?_, hB4.trans (hB.mono hB4.size)⟩
            rw [Hf.out]
            rfl
    · have ho' : ((s.size : Int) % 2 == 1) = false := by simp; omega
      have hL0 : L = (if leaf then 2 else 0) :: 0 :: s.data.toList := by rw [← hL]; unfold formHalves; rw [len_data, if_neg ho]
      have hLe : L.length % 2 = 0 := by rw [hL0]; simp only [List.length_cons, len_data]; omega
      have hLb : L.length ≤ 1073741826 := by rw [hL0]; simp only [List.length_cons, len_data]; omega
      have hL2 : 0 < L.length := by rw [hL0]; simp
      have HL0 := Lib.hid hL0
      have HLe := Lib.hid hLe
      clear hL0 hLe hL ho
      cases leaf
      all_goals
        go_enter Tryz.func97, Tryz.ntmps97
        go_wp2_with fail
        refine (isPathRef_any s _ (by omega)).mono ?_
        rintro e w1 ⟨rfl, hb1⟩
        have hz1 := hb1.size
        have l1 : OwnB 5 w.heap.size (w1.alloc (.cells #[.int .u8 0] 5)) (.slice (some ⟨w1.heap.size, 0, none⟩) 1 1) [0] := OwnB.lit w1 [0] hz1 (by decide)
        have l3 : OwnB 5 w.heap.size (w1.alloc (.cells #[.int .u8 2] 5)) (.slice (some ⟨w1.heap.size, 0, none⟩) 1 1) [2] := OwnB.lit w1 [2] hz1 (by decide)
        go_wp2_with (at_builtin; first | refine wpList_appendB rfl _ _ 60 rfl w.heap.size 5 Tryz.underlying60 infoByte' _ [0] rfl (l1.alloc _) ⟨w1.heap.size + 1, 0, none⟩ 1 1 [0] rfl rfl ?c0 ?c1 ?c2 ?_ | refine wpList_appendB rfl _ _ 60 rfl w.heap.size 5 Tryz.underlying60 infoByte' _ [2] rfl (l3.alloc _) ⟨w1.heap.size + 1, 0, none⟩ 1 1 [0] rfl rfl ?c0 ?c1 ?c2 ?_)
        case c0 => exact cells_new_at (by simp) (Lib.byteCells [0]) 5
        case c1 => simp
        case c2 => simp; omega
        clear l1 l3
        intro v3 w3 hown3 hg3
        have hB3 := (((hb1.alloc hz1 _).alloc (by simp; omega) _).grown hg3 (by simp; omega) (fun k hk => by cases hk; exact hz1))
        clear hg3
        have hz3 := hB3.size
        go_wp2_with (at_builtin; refine wpList_appendS rfl _ _ 60 9 rfl w.heap.size 5 Tryz.underlying60 Tryz.underlying9 infoByte' _ _ rfl hown3 s rfl ?c4 ?c5 ?_)
        case c4 => simp; omega
        case c5 => omega
        intro v w4 hown hg4
        have hB4 := hB3.grown hg4 hz3 (fun k hk => (hown3.lt k hk).1)
        clear hg4 hown3 hB3 hz3
        have hown' : OwnB 5 w.heap.size w4 v L := by rw [HL0.out]; exact hown
        have hLe := HLe.out
        clear HL0 HLe hown
        obtain ⟨g, c, rfl, hgb, hgs, hcell, _⟩ := hown'.opened hL2
        clear hown'
        have Hcell := Lib.hid hcell
        clear hcell
        go_wp2
        go_loopw [8, 9] (fun v i wr => ∃ m : Nat, m ≤ L.length ∧ m % 2 = 0 ∧ i = .int .i64 m ∧ OwnB 5 w4.heap.size wr v (pairUp (L.take m)) ∧ Below w4.heap.size w4 wr) (fun _ i _ => L.length - (intOf i).toNat)
        case atStart => exact ⟨0, by omega, by omega, rfl, by simpa [pairUp] using OwnB.nil _ _ _, Below.refl _ _⟩
        case round =>
          obtain ⟨m, hm1, hm2, rfl, hown, hB⟩ := hrel
          have g1 : (0 : Int) ≤ m := by omega
          by_cases hlt : m < L.length
          · have hlt1 : m + 1 < L.length := by omega
            have hc0 : wr.cell? ⟨g, m, none⟩ = some (.int .u8 L[m].toNat) := (hB.cell (p := ⟨g, m, none⟩) hgs).trans (Hcell.out m hlt)
            have hc1 : wr.cell? ⟨g, m + 1, none⟩ = some (.int .u8 L[m + 1].toNat) := (hB.cell (p := ⟨g, m + 1, none⟩) hgs).trans (Hcell.out (m + 1) hlt1)
            have hz := hB.size
            have Hle : Hid ((pairUp (L.take m)).length ≤ m) := pairUp_len L m
            have hcn := cells_new wr.drew (Lib.byteCells [joinN L[m] L[m + 1]]) 5
            have Hcn := Lib.hid hcn
            have hrow := fun k hk => (hown.lt k hk).1
            clear hcn
            have hown2 := (OwnB.drew hown).alloc (.cells (Lib.byteCells [joinN L[m] L[m + 1]]).toArray 5)
            have Hown2 := Lib.hid hown2
            clear hown2
            have e1 := u8_join L[m] L[m + 1]
            have hwr : IntKind.i64.wrap ((m : Int) + 1) = (m : Int) + 1 := by rw [IntKind.wrap_i64]; omega
            have hnn : ((m : Int) + 1).toNat = m + 1 := by omega
            have g2 : (0 : Int) ≤ (m : Int) + 1 := by omega
            have g3 : (m : Int) + 1 < (L.length : Int) := by omega
            have g4 : (m : Int) < (L.length : Int) := by omega
            go_wp2
            go_region_law (refine step_appendB rfl (.tmp 36) (.tmp 48) 60 rfl w4.heap.size 5 Tryz.underlying60 infoByte' _ _ (by simp [Act.eval]) Hown2.out ⟨wr.heap.size, 0, none⟩ 1 1 [joinN L[m] L[m + 1]] (by simp [Act.eval]) rfl Hcn.out (by have := Hle.out; omega) (by simp; omega) ?_; intro v' w5 hown5 hg5)
            all_goals
              clear Hcn Hown2 hown e1 hwr hnn
              go_wp2
              go_roundw
              case rel =>
                refine ⟨m + 2, by omega, by omega, by go_num, ?_, (hB.alloc hz _).drew.grown hg5 (by simp; omega) hrow⟩
                rw [pairUp_step hm2 hlt1]
                exact hown5
              case measure => simp [intOf]; omega
          · have hc := hown.str (P := Tryz.prog) Tryz.underlying60 Tryz.underlying5 Tryz.underlying9
            rw [pairUp_all hlt] at hc
            go_wp2
            go_ret2
            refine ⟨?_, hB4.trans (hB.mono hB4.size)⟩
            rw [Hf.out]
            rfl
  · have Hf : Hid (formV s.data.toList leaf = .tuple #[.string ⟨#[]⟩, .int .i64 2]) := formV_of (by unfold form; rw [if_neg hp])
    have hp' : isPath s.data.toList = false := by simpa using hp
    clear hp
    go_enter Tryz.func97, Tryz.ntmps97
    go_wp2_with (go_at_call 119; refine (isPathRef_any s _ (by omega)).mono ?_; rintro e w1 ⟨rfl, hb1⟩)
    go_ret2
    exact ⟨by rw [Hf.out]; rfl, hb1⟩
end Go.Proofs.YthicdhnjincflaaGreatDoor
