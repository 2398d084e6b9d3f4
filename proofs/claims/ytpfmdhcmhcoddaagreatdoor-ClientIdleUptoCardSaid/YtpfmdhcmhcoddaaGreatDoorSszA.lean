/- Trees of chunks, plain; and contracts of ssz's small functions: nought, isChunk, Number, at, levels. -/
import Derived.Test.YtpfmdhcmhcoddaaGreatDoorShaF
namespace Go.Proofs.YtpfmdhcmhcoddaaGreatDoor
open Go.RowKit Go.Shelf Go.Lib
attribute [local go_sem] Oper.semAt_some

/-- the sum of two chunks -/
def hash2 (a b : ByteArray) : ByteArray := ⟨(shaOf (a.data.toList ++ b.data.toList)).toArray⟩
/-- the chunk of bytes 0 -/
def noughtB : ByteArray := ⟨(List.replicate 32 0).toArray⟩
/-- an even number of them -/
def evened (z : ByteArray) (l : List ByteArray) : List ByteArray := if l.length % 2 = 1 then l ++ [z] else l
theorem evened_length (z : ByteArray) (l : List ByteArray) : (evened z l).length % 2 = 0 ∧ l.length ≤ (evened z l).length ∧ (evened z l).length ≤ l.length + 1 := by
  unfold evened; split <;> simp <;> omega
/-- the sums of pairs -/
def halfs (l : List ByteArray) : List ByteArray := (List.range (l.length / 2)).map fun i => hash2 (l.getD (2 * i) noughtB) (l.getD (2 * i + 1) noughtB)
theorem halfs_length (l : List ByteArray) : (halfs l).length = l.length / 2 := by simp [halfs]
/-- the level above -/
def levelUp (z : ByteArray) (l : List ByteArray) : List ByteArray := halfs (evened z l)
theorem levelUp_length (z : ByteArray) (l : List ByteArray) : (levelUp z l).length ≤ l.length := by
  have := evened_length z l
  unfold levelUp; rw [halfs_length]; omega
/-- a tree's levels -/
def levelsB : Nat → List ByteArray → ByteArray → List (List ByteArray × ByteArray)
  | 0, l, z => [(l, z)]
  | d + 1, l, z => (l, z) :: levelsB d (levelUp z l) (hash2 z z)
/-- a tree's root -/
def rootB : Nat → List ByteArray → ByteArray → ByteArray
  | 0, l, z => l.headD z
  | d + 1, l, z => rootB d (levelUp z l) (hash2 z z)
/-- pairs summed up in place: i are done -/
def halved (l : List ByteArray) (i : Nat) : List ByteArray := (halfs l).take i ++ l.drop i
theorem halved_zero (l : List ByteArray) : halved l 0 = l := by simp [halved]
theorem halved_length (l : List ByteArray) (i : Nat) (h : i ≤ l.length / 2) : (halved l i).length = l.length := by
  unfold halved; rw [List.length_append, List.length_take, halfs_length, List.length_drop]; omega
theorem halved_at (l : List ByteArray) (i j : Nat) (h : i ≤ l.length / 2) (hj : i ≤ j) (hl : j < l.length) : (halved l i)[j]? = some (l.getD j noughtB) := by
  unfold halved
  rw [List.getElem?_append_right (by rw [List.length_take, halfs_length]; omega), List.length_take, halfs_length, List.getElem?_drop]
  rw [show i + (j - min i (l.length / 2)) = j from by omega, List.getD_eq_getElem?_getD, List.getElem?_eq_getElem hl]
  rfl
theorem halved_set (l : List ByteArray) (i : Nat) (h : i < l.length / 2) : (halved l i).set i (hash2 (l.getD (2 * i) noughtB) (l.getD (2 * i + 1) noughtB)) = halved l (i + 1) := by
  have hl : ((halfs l).take i).length = i := by rw [List.length_take, halfs_length]; omega
  have hi : (halfs l)[i]? = some (hash2 (l.getD (2 * i) noughtB) (l.getD (2 * i + 1) noughtB)) := by
    unfold halfs
    rw [List.getElem?_map, List.getElem?_range h]; rfl
  unfold halved
  rw [List.set_append_right _ _ (by omega), hl, Nat.sub_self, List.take_add_one, hi, List.append_assoc, List.drop_eq_getElem_cons (show i < l.length by omega), List.set_cons_zero]
  rfl
theorem halved_done (l : List ByteArray) : (halved l (l.length / 2)).take (l.length / 2) = halfs l := by
  unfold halved
  have := halfs_length l
  rw [List.take_of_length_le (l := halfs l) (by omega), List.take_append_of_le_length (by omega), List.take_of_length_le (by omega)]

set_option maxRecDepth 100000 in
theorem nought_any (w : World) : Calls Tryz.prog 180 #[] w fun e w' => e = .returned (.string noughtB) ∧ Below w.heap.size w w' := by
  have H := Lib.hid (fun W => repeat_lit 32 (by omega) W)
  go_enter Tryz.func180, Tryz.ntmps180
  go_wp2_with fail
  refine (H.out _).mono ?_
  rintro e w1 ⟨rfl, hb⟩
  go_wp2
  go_ret
  exact ⟨rfl, hb⟩
set_option maxRecDepth 100000 in
theorem isChunk_any (s : ByteArray) (w : World) : Calls Tryz.prog 186 #[.string s] w fun e w' => e = .returned (.bool (decide (s.size = 32))) ∧ w' = w := by
  have h : ((s.size : Int) == 32) = decide (s.size = 32) := by
    by_cases h : s.size = 32
    · rw [h]; rfl
    · rw [decide_eq_false h, beq_eq_false_iff_ne]; omega
  go_enter Tryz.func186, Tryz.ntmps186
  go_wp2
  go_ret
  exact ⟨rfl, rfl⟩
set_option maxRecDepth 100000 in
theorem right1_any (s : ByteArray) (w : World) : Calls Tryz.prog 231 #[.string s] w fun e w' => e = .returned (.bool (!decide (s.size = 32))) ∧ w' = w := by
  have H := Lib.hid (fun W => isChunk_any s W)
  obtain ⟨b, hb⟩ : ∃ b, decide (s.size = 32) = b := ⟨_, rfl⟩
  rw [hb] at H ⊢
  clear hb
  go_enter Tryz.func231, Tryz.ntmps231
  go_wp2_with fail
  refine (H.out _).mono ?_
  rintro e w1 ⟨rfl, rfl⟩
  go_wp2
  go_ret
  exact ⟨rfl, rfl⟩
set_option maxRecDepth 100000 in
set_option maxHeartbeats 1600000 in
/-- the first one of a level -/
theorem at_any (v : Value) (xs : List ByteArray) (z : ByteArray) (w : World) (hv : Strs w v xs) (hN : xs.length ≤ 1099511627776) : Calls Tryz.prog 183 #[v, .string z, .int .i64 0] w fun e w' => e = .returned (.string (xs.headD z)) ∧ w' = w := by
  obtain ⟨p, c, rfl, hc, h⟩ := hv
  cases xs with
  | nil =>
    go_enter Tryz.func183, Tryz.ntmps183
    go_wp2
    go_ret
    exact ⟨rfl, rfl⟩
  | cons x r =>
    rcases h with h | ⟨bk, o, rfl, hk, h⟩
    · cases h
    · have c0 : w.cell? ⟨bk, o, none⟩ = some (.string x) := by simpa using h 0 x rfl
      have g1 : decide ((0 : Int) < (r.length : Int) + 1) = true := by simp
      have g2 : (0 : Int) < (r.length : Int) + 1 := by omega
      go_enter Tryz.func183, Tryz.ntmps183
      go_wp2
      go_ret
      exact ⟨rfl, rfl⟩
theorem levels_any (F : Fence) (n : Nat) (hf : F.fn 182) (hro : F.round = none) (p : Option Addr) (m c d : Nat) (w : World) :
    CallsIn F n Tryz.prog 182 #[.slice p m c, .int .i64 d] w fun e w' => e = .returned (.func (.func 232) #[] #[.pointer (some ⟨w.heap.size, 0, none⟩), .pointer (some ⟨w.heap.size + 1, 0, none⟩)]) ∧ w' = (w.alloc (.cells #[.slice p m c] 27)).alloc (.cells #[.int .i64 d] 3) := by
  refine callsIn_of_wp Tryz.func182 rfl hf ?_ hro
  simp only [Tryz.ntmps182, List.size_toArray, List.length_cons, List.length_nil, Nat.reduceAdd, Nat.reduceSub, Array.replicate_succ, Array.replicate_zero, List.push_toArray, List.append_toArray, List.nil_append, List.cons_append]
  gi_wp2
  go_ret
  exact ⟨rfl, rfl⟩
end Go.Proofs.YtpfmdhcmhcoddaaGreatDoor
