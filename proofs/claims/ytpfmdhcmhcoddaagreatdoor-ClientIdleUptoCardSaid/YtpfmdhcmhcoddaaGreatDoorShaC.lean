/- Contracts of sha.blocks and of the iterator that it hands back. -/
import Derived.Test.YtpfmdhcmhcoddaaGreatDoorShaB
import Derived.Test.YtpfmdhcmhcoddaaGreatDoorShaQ
import Derived.Test.YtpfmdhcmhcoddaaGreatDoorShelfR
import Derived.Test.YtpfmdhcmhcoddaaGreatDoorRange
import Derived.Test.YtpfmdhcmhcoddaaGreatDoorScope
import Derived.OwnWalkIn
import Derived.TacticsInMore
import Derived.LoopNIn
import Derived.LoopIn
import Derived.Outline
namespace Go.Proofs.YtpfmdhcmhcoddaaGreatDoor
open Go.RowKit Go.Shelf Go.Lib
attribute [local go_sem] Oper.semAt_some

theorem blocks_any (F : Fence) (n : Nat) (hf : F.fn 184) (hro : F.round = none) (s : ByteArray) (w : World) :
    CallsIn F n Tryz.prog 184 #[.string s] w fun e w' => e = .returned (.func (.func 234) #[] #[.pointer (some ⟨w.heap.size, 0, none⟩)]) ∧ w' = w.alloc (.cells #[.string s] 9) := by
  refine callsIn_of_wp Tryz.func184 rfl hf ?_ hro
  simp only [Tryz.ntmps184, List.size_toArray, List.length_cons, List.length_nil, Nat.reduceAdd, Nat.reduceSub, Array.replicate_succ, Array.replicate_zero, List.push_toArray, List.append_toArray, List.nil_append, List.cons_append]
  gi_wp2
  go_ret
  exact ⟨rfl, rfl⟩
end Go.Proofs.YtpfmdhcmhcoddaaGreatDoor
