/- What the walks take: TrxR. -/
import Derived.Test.YthicdhnjincflaaDoorS32
import Derived.Test.YthicdhnjincflaaDoorS34
namespace Go.Proofs.YthicdhnjincflaaDoor
open Go.RowKit Go.Shelf Go.Lib
attribute [local go_sem] Oper.semAt_some
theorem prove_right {ps : List PairD} (h : rightP ps = true) (hne : ps ≠ []) (key : List UInt8) : proveR ps key = (wayP keccakL 129 ps 0 (halves key), 0) := by
  unfold proveR
  rw [if_pos h]
  cases ps with
  | nil => exact absurd rfl hne
  | cons q r => rfl
theorem prove_wrong {ps : List PairD} (h : rightP ps = false) (key : List UInt8) : proveR ps key = ([], 60) := by
  unfold proveR
  rw [h]
  rfl
theorem nodes_right {ps : List PairD} (h : rightP ps = true) (hne : ps ≠ []) : nodesR ps = (nodesP keccakL 129 ps 0, 0) := by
  unfold nodesR
  rw [if_pos h]
  cases ps with
  | nil => exact absurd rfl hne
  | cons q r => rfl
theorem nodes_wrong {ps : List PairD} (h : rightP ps = false) : nodesR ps = ([], 60) := by
  unfold nodesR
  rw [h]
  rfl
theorem root_right {ps : List PairD} (h : rightP ps = true) : rootR ps = (rootP keccakL ps, 0) := by
  unfold rootR
  rw [if_pos h]
theorem root_wrong {ps : List PairD} (h : rightP ps = false) : rootR ps = ([], 60) := by
  unfold rootR
  rw [h]
  rfl
theorem weightP_mem {l : List PairD} {q : PairD} (h : q ∈ l) : q.1.length + q.2.length ≤ weightP l := by
  induction l with
  | nil => cases h
  | cons x r ih =>
    simp only [weightP]
    rcases List.mem_cons.1 h with rfl | h
    · omega
    · have := ih h
      omega
theorem fewP_small {n : Nat} {l : List PairD} {q : PairD} (h : q ∈ fewP n l) : q.1.length ≤ weightP l ∧ q.2.length ≤ 100 := by
  unfold fewP at h
  obtain ⟨x, hx, rfl⟩ := List.mem_map.1 h
  have := weightP_mem (List.mem_of_mem_take hx)
  exact ⟨by dsimp only; omega, by dsimp only; rw [List.length_take]; omega⟩
theorem fewP_big {n : Nat} {l : List PairD} (h : weightP l ≤ 1048576) : ∀ q ∈ fewP n l, q.1.length ≤ 1099511627776 ∧ q.2.length ≤ 1099511627776 := fun q hq => by
  have := fewP_small hq
  omega
set_option maxRecDepth 100000 in
set_option maxHeartbeats 6400000 in
theorem right_law (v0 : Value) (l0 : List PairD) (w : World) (hs0 : Pairs w v0 l0) (g0 : weightP l0 ≤ 1048576) (hK : KecT w) :
    Calls Tryd.prog 8 #[v0] w fun e w' => e = .returned (.bool true) ∧ Below w.heap.size w w' := by
  have hl := weightP_len l0
  have HSH := Lib.hid (shown06_any w hK)
  have HR1 := Lib.hid (fun W (hb : Below w.heap.size w W) => trieRight_any l0 v0 W (hs0.after hb) (by omega) (fun q hq => by have := weightP_mem hq; omega))
  have HR2 := Lib.hid (fun W (hb : Below w.heap.size w W) => rightRef_any l0 v0 W (hs0.after hb) (by omega))
  obtain ⟨b, hb⟩ : ∃ b, rightP l0 = b := ⟨_, rfl⟩
  rw [hb] at HR1 HR2
  clear hs0 g0 hK hl hb
  go_enter Tryd.func8, Tryd.ntmps8
  go_wp2_with fail
  refine HSH.out.mono ?_
  rintro e w1 ⟨rfl, hb1⟩
  have HB1 := Lib.hid hb1
  clear hb1 HSH
  go_wp2_with fail
  refine (HR1.out _ HB1.out).mono ?_
  rintro e w2 ⟨rfl, hb2⟩
  have HB2 := Lib.hid (HB1.out.trans (hb2.mono HB1.out.size))
  clear hb2
  go_wp2_with fail
  refine (HR2.out _ HB2.out).mono ?_
  rintro e w3 ⟨rfl, hb3⟩
  have HB3 := Lib.hid (HB2.out.trans (hb3.mono HB2.out.size))
  clear hb3
  cases b
  all_goals
    go_wp2_with fail
    go_ret
    exact ⟨rfl, HB3.out⟩
end Go.Proofs.YthicdhnjincflaaDoor
