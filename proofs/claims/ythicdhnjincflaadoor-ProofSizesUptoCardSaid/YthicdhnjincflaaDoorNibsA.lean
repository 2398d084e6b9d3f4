/- Contracts of nibs.Common and the reference's Common, Of, isPath: each returns what the plain function gives, and nothing that was there is changed. -/
import Derived.Test.YthicdhnjincflaaDoorChecked
import Derived.Test.YthicdhnjincflaaDoorPlain
import Derived.WalkSpells
import Derived.WalkLawsBesides
import Derived.Deep.QuietTactic
import Derived.BigQuiet
import Derived.StillTailTactics
import Derived.Deep.RegionLaw
import Derived.Outline
namespace Go.Proofs.YthicdhnjincflaaDoor
open Go.RowKit

theorem infoByte' : (Tryd.prog.info? 5).map (fun i => (i.zero, i.size, i.bytes)) = some (some (.int .u8 0), 1, 1) := by kernel_rfl

set_option maxHeartbeats 400000 in
theorem common_any (a b : ByteArray) (w : World) (ha : a.size ≤ 4294967296) (hb : b.size ≤ 4294967296) :
    Calls Tryd.prog 107 #[.string a, .string b] w fun e w' => e = .returned (.int .i64 (common a.data.toList b.data.toList)) ∧ Below w.heap.size w w' := by
  by_cases hab : b.size < a.size
  all_goals
    go_enter Tryd.func107, Tryd.ntmps107
    go_wp2
    go_loopw [6, 13] (fun _ i wr => ∃ k : Nat, k ≤ a.size ∧ k ≤ b.size ∧ i = .int .i64 k ∧ (∀ i, i < k → a.data.toList[i]? = b.data.toList[i]?) ∧ Below w.heap.size w wr) (fun _ i _ => a.size - (intOf i).toNat)
    case atStart => exact ⟨0, by omega, by omega, rfl, by omega, Below.refl _ _⟩
    case round =>
      obtain ⟨k, hk1, hk2, rfl, heq, hB⟩ := hrel
      have Heq := Lib.hid heq
      clear heq
      by_cases hlt : k < a.size ∧ k < b.size
      · obtain ⟨h1, h2⟩ := hlt
        have g1 : (0 : Int) ≤ k := by omega
        go_wp2
        go_quiet (fail)
        go_wp2
        · go_ret
          rw [common_ne Heq.out h1 h2 (by assumption)]
          exact ⟨rfl, Below.drewN hB _⟩
        · go_roundw
          case rel => exact ⟨k + 1, by omega, by omega, by go_num, alike_succ Heq.out h1 h2 (by assumption), Below.drewN hB _⟩
          case measure => simp [intOf]; omega
      · have hc := common_end Heq.out hk1 hk2 hlt
        have Hc := Lib.hid hc
        clear hc Heq
        have hm : (k = b.size ∧ b.size < a.size) ∨ (k = a.size ∧ ¬ b.size < a.size) := by omega
        clear hlt
        rcases hm with ⟨hm, h2⟩ | ⟨hm, h2⟩
        all_goals
          first
            | (exfalso; omega; done)
            | (have h3 : ¬ k < (if b.size < a.size then b.size else a.size) := by split <;> omega
               first
                 | rw [if_pos hab] at h3
                 | rw [if_neg hab] at h3
               have Hm := Lib.hid hm
               clear hm h2
               go_wp2
               go_ret
               refine ⟨?_, hB⟩
               rw [Hc.out]
               exact congrArg (fun n : Nat => Ending.returned (.int .i64 (n : Int))) Hm.out.symm)

set_option maxHeartbeats 800000 in
set_option maxRecDepth 100000 in
theorem commonRef_any (a b : ByteArray) (w : World) (ha : a.size ≤ 4294967296) (hb : b.size ≤ 4294967296) :
    Calls Tryd.prog 100 #[.string a, .string b] w fun e w' => e = .returned (.int .i64 (common a.data.toList b.data.toList)) ∧ Below w.heap.size w w' := by
  go_enter Tryd.func100, Tryd.ntmps100
  go_wp2
  go_loopw [5] (fun i wr => ∃ k : Nat, k ≤ a.size ∧ k ≤ b.size ∧ i = .int .i64 k ∧ (∀ i, i < k → a.data.toList[i]? = b.data.toList[i]?) ∧ Below w.heap.size w wr) (fun i _ => a.size - (intOf i).toNat)
  case atStart => exact ⟨0, by omega, by omega, rfl, by omega, Below.refl _ _⟩
  case round =>
    obtain ⟨k, hk1, hk2, rfl, heq, hB⟩ := hrel
    have Heq := Lib.hid heq
    clear heq
    have g1 : (0 : Int) ≤ k := by omega
    go_wp2
    by_cases h1 : k < a.size
    · by_cases h2 : k < b.size
      · go_quiet (fail)
        go_wp2
        · go_roundw
          case rel => exact ⟨k + 1, by omega, by omega, by go_num, alike_succ Heq.out h1 h2 (by simp_all), Below.drewN hB _⟩
          case measure => simp [intOf]; omega
        · go_ret
          rw [common_ne Heq.out h1 h2 (by simp_all)]
          exact ⟨rfl, Below.drewN hB _⟩
      · have d2 : decide (k < b.size) = false := by simpa using h2
        go_quiet (fail)
        go_wp2
        go_ret
        rw [common_end Heq.out hk1 hk2 (by omega)]
        exact ⟨rfl, Below.drewN hB _⟩
    · have d1 : decide (k < a.size) = false := by simpa using h1
      go_quiet (fail)
      go_wp2
      go_ret
      rw [common_end Heq.out hk1 hk2 (by omega)]
      exact ⟨rfl, Below.drewN hB _⟩

set_option maxRecDepth 100000 in
set_option maxHeartbeats 800000 in
theorem ofRef_any (s : ByteArray) (w : World) (hs : s.size ≤ 4294967296) :
    Calls Tryd.prog 44 #[.string s] w fun e w' => e = .returned (.string ⟨(halves s.data.toList).toArray⟩) ∧ Below w.heap.size w w' := by
  go_enter Tryd.func44, Tryd.ntmps44
  go_wp2
  go_loopw [3, 4] (fun v i wr => ∃ k : Nat, k ≤ s.size ∧ i = .int .i64 k ∧ OwnB 5 w.heap.size wr v (halves (s.data.toList.take k)) ∧ Below w.heap.size w wr) (fun _ i _ => s.size - (intOf i).toNat)
  case atStart => exact ⟨0, by omega, rfl, by simpa [halves] using OwnB.nil _ _ _, Below.refl _ _⟩
  case round =>
    obtain ⟨k, hk1, rfl, hown, hB⟩ := hrel
    have g1 : (0 : Int) ≤ k := by omega
    by_cases hlt : k < s.size
    · have e1 := u8_hi s[k]
      have e2 := u8_lo s[k]
      have hz := hB.size
      have hl := halves_length (s.data.toList.take k)
      rw [List.length_take, len_data] at hl
      have Hl := Lib.hid hl
      clear hl
      go_wp2
      have hcn := cells_new wr.drew (Lib.byteCells [hiN s[k], loN s[k]]) 5
      have Hcn := Lib.hid hcn
      have hrow := fun k hk => (hown.lt k hk).1
      clear hcn
      have hown2 := (OwnB.drew hown).alloc (.cells (Lib.byteCells [hiN s[k], loN s[k]]).toArray 5)
      have Hown2 := Lib.hid hown2
      clear hown2
      go_region_law (refine step_appendB rfl (.tmp 11) (.tmp 20) 24 rfl w.heap.size 5 Tryd.underlying24 infoByte' _ _ (by simp [Act.eval]) Hown2.out ⟨wr.heap.size, 0, none⟩ 2 2 [hiN s[k], loN s[k]] (by simp [Act.eval]) rfl Hcn.out (by have := Hl.out; omega) (by simp; omega) ?_; intro v' w3 hown3 hg3)
      all_goals
        clear Hcn Hown2 hown
        go_wp2
        go_roundw
        case rel =>
          refine ⟨k + 1, by omega, by go_num, ?_, (hB.alloc hz _).drew.grown hg3 (by simp; omega) hrow⟩
          rw [take_snoc s k hlt, halves_append, halves_one]
          exact hown3
        case measure => simp [intOf]; omega
    · have hc := hown.str (P := Tryd.prog) Tryd.underlying24 Tryd.underlying5 Tryd.underlying9
      rw [take_all s k (by omega)] at hc
      go_wp2
      go_ret
      exact ⟨rfl, hB⟩

set_option maxHeartbeats 400000 in
theorem isPathRef_any (s : ByteArray) (w : World) (hs : s.size ≤ 4294967296) :
    Calls Tryd.prog 147 #[.string s] w fun e w' => e = .returned (.bool (isPath s.data.toList)) ∧ Below w.heap.size w w' := by
  go_enter Tryd.func147, Tryd.ntmps147
  go_wp2
  go_loopw [3] (fun i wr => ∃ k : Nat, k ≤ s.size ∧ i = .int .i64 k ∧ (∀ i (hi : i < s.size), i < k → (s[i].toNat : Int) ≤ 15) ∧ Below w.heap.size w wr) (fun i _ => s.size - (intOf i).toNat)
  case atStart => exact ⟨0, by omega, rfl, by omega, Below.refl _ _⟩
  case round =>
    obtain ⟨k, hk1, rfl, hall, hB⟩ := hrel
    have Hall := Lib.hid hall
    clear hall
    have g1 : (0 : Int) ≤ k := by omega
    by_cases hlt : k < s.size
    · by_cases hb : 15 < (s[k].toNat : Int)
      · have hf := isPath_false s k hlt hb
        have Hf := Lib.hid hf
        clear hf
        go_wp2
        go_ret
        rw [Hf.out]
        exact ⟨rfl, hB⟩
      · have hs' := isPath_step Hall.out hlt (by omega)
        have Hs := Lib.hid hs'
        clear hs'
        go_wp2
        go_roundw
        case rel => exact ⟨k + 1, by omega, by go_num, Hs.out, hB⟩
        case measure => simp [intOf]; omega
    · have ht := isPath_true s (fun i hi => Hall.out i hi (by omega))
      have Ht := Lib.hid ht
      clear ht
      go_wp2
      go_ret
      rw [Ht.out]
      exact ⟨rfl, hB⟩
end Go.Proofs.YthicdhnjincflaaDoor
