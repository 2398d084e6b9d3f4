/- What the walks take: NibsA, NibsB. -/
import Derived.Test.YthicdhnjincflaaDoorS3
import Derived.Test.YthicdhnjincflaaDoorChecked
import Derived.WalkSpells
import Derived.WalkLawsBesides
import Derived.Deep.QuietTactic
import Derived.BigQuiet
import Derived.StillTailTactics
import Derived.Deep.RegionLaw
import Derived.Outline
namespace Go.Proofs.YthicdhnjincflaaDoor
open Go.RowKit
theorem infoByte' : (Tryd.prog.info? 5).map (fun i => (i.zero, i.size, i.bytes)) = some (some (.int .u8 0), 1, 1) := by kernel_rfl
set_option maxHeartbeats 400000 in
theorem common_any (a b : ByteArray) (w : World) (ha : a.size ≤ 4294967296) (hb : b.size ≤ 4294967296) :
    Calls Tryd.prog 107 #[.string a, .string b] w fun e w' => e = .returned (.int .i64 (common a.data.toList b.data.toList)) ∧ Below w.heap.size w w' := by
  by_cases hab : b.size < a.size
  all_goals
    go_enter Tryd.func107, Tryd.ntmps107
    go_wp2
    go_loopw [6, 13] (fun _ i wr => ∃ k : Nat, k ≤ a.size ∧ k ≤ b.size ∧ i = .int .i64 k ∧ (∀ i, i < k → a.data.toList[i]? = b.data.toList[i]?) ∧ Below w.heap.size w wr) (fun _ i _ => a.size - (intOf i).toNat)
    case atStart => exact ⟨0, by omega, by omega, rfl, by omega, Below.refl _ _⟩
    case round =>
      obtain ⟨k, hk1, hk2, rfl, heq, hB⟩ := hrel
      have Heq := Lib.hid heq
      clear heq
      by_cases hlt : k < a.size ∧ k < b.size
      · obtain ⟨h1, h2⟩ := hlt
        have g1 : (0 : Int) ≤ k := by omega
        go_wp2
        go_quiet (fail)
        go_wp2
        · go_ret
          rw [common_ne Heq.out h1 h2 (by assumption)]
          exact ⟨rfl, Below.drewN hB _⟩
        · go_roundw
          case rel => exact ⟨k + 1, by omega, by omega, by go_num, alike_succ Heq.out h1 h2 (by assumption), Below.drewN hB _⟩
          case measure => simp [intOf]; omega
      · have hc := common_end Heq.out hk1 hk2 hlt
        have Hc := Lib.hid hc
        clear hc Heq
        have hm : (k = b.size ∧ b.size < a.size) ∨ (k = a.size ∧ ¬ b.size < a.size) := by omega
        clear hlt
        rcases hm with ⟨hm, h2⟩ | ⟨hm, h2⟩
        all_goals
          first
            | (exfalso; omega; done)
            | (have h3 : ¬ k < (if b.size < a.size then b.size else a.size) := by split <;> omega
               first
                 | rw [if_pos hab] at h3
                 | rw [if_neg hab] at h3
               have Hm := Lib.hid hm
               clear hm h2
               go_wp2
               go_ret
               refine ⟨?_, hB⟩
               rw [Hc.out]
               exact congrArg (fun n : Nat => Ending.returned (.int .i64 (n : Int))) Hm.out.symm)
end Go.Proofs.YthicdhnjincflaaDoor

namespace Go.Proofs.YthicdhnjincflaaDoor
open Go.RowKit
/-- the loop that joins two half bytes, once the half bytes lie in a row of the call's own: its end -/
theorem pairUp_all {L : List UInt8} {m : Nat} (h : ¬ m < L.length) : pairUp (L.take m) = pairUp L := by rw [List.take_of_length_le (by omega)]
end Go.Proofs.YthicdhnjincflaaDoor
