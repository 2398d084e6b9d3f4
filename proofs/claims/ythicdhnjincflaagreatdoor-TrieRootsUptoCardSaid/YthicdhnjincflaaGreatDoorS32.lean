/- What the walks take: TrwB, TrxA. -/
import Derived.Test.YthicdhnjincflaaGreatDoorS21
import Derived.Test.YthicdhnjincflaaGreatDoorS25
import Derived.Test.YthicdhnjincflaaGreatDoorS31
import Derived.Laws.EntriesVeiled
namespace Go.Proofs.YthicdhnjincflaaGreatDoor
open Go.RowKit Go.Shelf Go.Lib
attribute [local go_sem] Oper.semAt_some
/-- what the closure does: the variable's row holds these texts -/
def Tells (B bo : Nat) (w : World) (l : List ByteArray) (w' : World) : Prop :=
  Below bo w w' ∧ B ≤ w'.heap.size ∧ (∀ k, k < B → k ≠ bo → w'.heap[k]? = w.heap[k]?) ∧ ∃ p c, HasCells w' bo [.slice p l.length c] 29 ∧ OwnS B w' (.slice p l.length c) l
theorem Tells.trans {B bo : Nat} {w w1 w2 : World} {l1 l2 : List ByteArray} (h1 : Tells B bo w l1 w1) (h2 : Tells B bo w1 l2 w2) : Tells B bo w l2 w2 :=
  ⟨h1.1.trans h2.1, h2.2.1, fun k hk hne => (h2.2.2.1 k hk hne).trans (h1.2.2.1 k hk hne), h2.2.2.2⟩
end Go.Proofs.YthicdhnjincflaaGreatDoor

namespace Go.Proofs.YthicdhnjincflaaGreatDoor
open Go.RowKit Go.Shelf Go.Lib
attribute [local go_sem] Oper.semAt_some
set_option maxHeartbeats 1600000 in
theorem four06_any (w : World) : Calls Tryz.prog 16 #[] w fun e w' => (∃ v, e = .returned v ∧ Pairs w' v fourP) ∧ Below w.heap.size w w' := by
  have hc := HasCells.new w [.string ⟨#[100, 111]⟩, .string ⟨#[118, 101, 114, 98]⟩, .string ⟨#[100, 111, 103]⟩, .string ⟨#[112, 117, 112, 112, 121]⟩, .string ⟨#[100, 111, 103, 101]⟩, .string ⟨#[99, 111, 105, 110]⟩, .string ⟨#[104, 111, 114, 115, 101]⟩, .string ⟨#[115, 116, 97, 108, 108, 105, 111, 110]⟩] 40
  have HC := Lib.hid hc
  clear hc
  go_enter Tryz.func16, Tryz.ntmps16
  go_wp2_with fail
  go_ret
  refine ⟨⟨_, rfl, _, _, rfl, Nat.le_refl _, .inr ⟨_, 0, rfl, HC.out.lt, ?_⟩⟩, laid1 w _⟩
  intro j q hq
  have hlt := (List.getElem?_eq_some_iff.1 hq).1
  have hj : j < 4 := hlt
  match j, hj, hq with
  | 0, _, hq => cases hq; exact ⟨HC.out.cell (j := 0) rfl, HC.out.cell (j := 1) rfl⟩
  | 1, _, hq => cases hq; exact ⟨HC.out.cell (j := 2) rfl, HC.out.cell (j := 3) rfl⟩
  | 2, _, hq => cases hq; exact ⟨HC.out.cell (j := 4) rfl, HC.out.cell (j := 5) rfl⟩
  | 3, _, hq => cases hq; exact ⟨HC.out.cell (j := 6) rfl, HC.out.cell (j := 7) rfl⟩
set_option maxRecDepth 100000 in
set_option maxHeartbeats 6400000 in
theorem some06_any (v : Value) (ps : List PairD) (w : World) (hv : Pairs w v ps) (hN : ps.length ≤ 1099511627776) :
    Calls Tryz.prog 6 #[v] w fun e w' => ∃ p c, e = .returned (.slice p (fewP 40 ps).length c) ∧ OwnP w.heap.size w' (.slice p (fewP 40 ps).length c) (fewP 40 ps) ∧ Below w.heap.size w w' := by
  obtain ⟨p, c, rfl, hc, hcell⟩ := hv
  have HC := Lib.hid hcell
  obtain ⟨n, hn⟩ : ∃ n, ps.length = n := ⟨_, rfl⟩
  obtain ⟨m, hm⟩ : ∃ m, (fewP 40 ps).length = m := ⟨_, rfl⟩
  have hmn : m = min 40 n := by rw [← hm, ← hn]; unfold fewP; rw [List.length_map, List.length_take]
  rw [hn] at hc ⊢
  rw [hn] at hN
  rw [hm]
  have HN := Lib.hid hn
  have HM := Lib.hid hm
  have HMN := Lib.hid hmn
  clear hcell hn hm hmn
  go_enter Tryz.func6, Tryz.ntmps6
  go_wp2_with fail
  go_loopw [3, 4] (fun v i wr => ∃ k : Nat, k ≤ m ∧ i = .int .i64 k ∧ Aside (OwnP w.heap.size wr v ((fewP 40 ps).take k)) ∧ Aside (Below w.heap.size w wr)) (fun _ i _ => m - (RowKit.intOf i).toNat)
  case atStart => exact ⟨0, Nat.zero_le _, rfl, OwnP.nil _ _, Below.refl _ _⟩
  case round =>
    obtain ⟨k, hk, rfl, HO, HB⟩ := hrel
    by_cases hlt : k < m
    · have hkn : k < n := by have := HMN.out; omega
      have hk40 : k < 40 := by have := HMN.out; omega
      obtain ⟨s, hs⟩ : ∃ s, ps[k]? = some s := ⟨_, List.getElem?_eq_getElem (by rw [HN.out]; exact hkn)⟩
      obtain ⟨bk, o, rfl, hbk, hcl⟩ : ∃ bk o, p = some ⟨bk, o, none⟩ ∧ bk < w.heap.size ∧ ∀ (j : Nat) q, ps[j]? = some q → w.cell? ⟨bk, o + j * 2, none⟩ = some (.string ⟨q.1.toArray⟩) ∧ w.cell? ⟨bk, o + j * 2 + 1, none⟩ = some (.string ⟨q.2.toArray⟩) := by
        rcases HC.out with h | ⟨bk, o, h1, h2, h3⟩
        · have h4 := congrArg List.length h
          rw [HN.out] at h4
          simp at h4
          omega
        · exact ⟨bk, o, h1, h2, h3⟩
      have hS : ∀ W, Below w.heap.size w W → W.cell? ⟨bk, o + k * 2, none⟩ = some (.string ⟨s.1.toArray⟩) ∧ W.cell? ⟨bk, o + k * 2 + 1, none⟩ = some (.string ⟨s.2.toArray⟩) := fun W hb => ⟨(hb.cell (p := ⟨bk, o + k * 2, none⟩) hbk).trans (hcl k _ hs).1, (hb.cell (p := ⟨bk, o + k * 2 + 1, none⟩) hbk).trans (hcl k _ hs).2⟩
      have HS := Lib.hid hS
      have hts : (fewP 40 ps).take (k + 1) = (fewP 40 ps).take k ++ [(s.1, s.2.take 100)] := fewP_take hs hk40
      have hll : ((fewP 40 ps).take k).length = k := by rw [List.length_take, HM.out]; omega
      obtain ⟨L, hL⟩ : ∃ L, (fewP 40 ps).take k = L := ⟨_, rfl⟩
      have ho := HO.out
      rw [hL] at hts hll ho
      obtain ⟨pv, cv, hv⟩ := ho.form
      rw [hll] at hv
      subst hv
      have HO1 := Lib.hid ho
      have HTS := Lib.hid hts
      have HLL := Lib.hid hll
      have g1 : (0 : Int) ≤ k := by omega
      have g2 : (k : Int) < n := by omega
      have g3 : (k : Int) < 40 := by omega
      obtain ⟨ky, vl⟩ := s
      have hsz : (⟨vl.toArray⟩ : ByteArray).size = vl.length := rfl
      dsimp only at HS HTS
      clear ho hts hll hL HO hcl hs hS hkn hk40
      obtain ⟨q, hq⟩ : ∃ q, min vl.length 100 = q := ⟨_, rfl⟩
      have h4 : min (vl.length : Int) 100 = (q : Int) := by omega
      have h5 : (0 : Int) ≤ (q : Int) := by omega
      have h6 : (q : Int) ≤ (vl.length : Int) := by omega
      have hx := extract_bt vl q
      rw [show vl.take q = vl.take 100 by rw [← hq, take_minL]] at hx
      have HX := Lib.hid hx
      clear hx hq
      go_wp2_with fail
      refine wp_region_held_drew (S := (fun W => W.cell? ⟨bk, o + k * 2, none⟩ = some (.string ⟨ky.toArray⟩) ∧ W.cell? ⟨bk, o + k * 2 + 1, none⟩ = some (.string ⟨vl.toArray⟩))) (by kernel_rfl) (HS.out _ HB.out.drew) (fun hHeld => ?_)
      refine wpAnyH_take (i := 0) (v := ?_) rfl (by kernel_rfl) (by kernel_rfl) (by kernel_rfl) (fun _ _ _ h => h) (.inl ⟨by rfl, ?_⟩) (by assumption) ?_
      rotate_left 1
      · intro w0 hSw
        go_simp <;> with_reducible rfl
      try simp only [Act.put, List.getElem_toArray, List.getElem_cons_zero, List.setIfInBounds_toArray, List.set_cons_zero, List.set_cons_succ]
      refine wpAnyH_take (i := 1) (v := ?_) rfl (by kernel_rfl) (by kernel_rfl) (by kernel_rfl) (fun _ _ _ h => h) (.inl ⟨by rfl, ?_⟩) (by assumption) ?_
      rotate_left 1
      · intro w0 hSw
        go_simp <;> with_reducible rfl
      try simp only [Act.put, List.getElem_toArray, List.getElem_cons_zero, List.getElem_cons_succ, List.setIfInBounds_toArray, List.set_cons_zero, List.set_cons_succ]
      refine wpAnyH_take (i := 2) (v := ?_) rfl (by kernel_rfl) (by kernel_rfl) (by kernel_rfl) (fun _ _ _ h => h) (.inl ⟨by rfl, ?_⟩) (by assumption) ?_
      rotate_left 1
      · intro w0 hSw
        go_simp <;> with_reducible rfl
      try simp only [Act.put, List.getElem_toArray, List.getElem_cons_zero, List.getElem_cons_succ, List.setIfInBounds_toArray, List.set_cons_zero, List.set_cons_succ]
      refine wpAnyH_take (i := 3) (v := ?_) rfl (by kernel_rfl) (by kernel_rfl) (by kernel_rfl) (fun _ _ _ h => h) (.inl ⟨by rfl, ?_⟩) (by assumption) ?_
      rotate_left 1
      · intro w0 hSw
        go_simp <;> with_reducible rfl
      try simp only [Act.put, List.getElem_toArray, List.getElem_cons_zero, List.getElem_cons_succ, List.setIfInBounds_toArray, List.set_cons_zero, List.set_cons_succ]
      refine wpAnyH_take (i := 4) (v := ?_) rfl (by kernel_rfl) (by kernel_rfl) (by kernel_rfl) (fun _ _ _ h => h) (.inl ⟨by rfl, ?_⟩) (by assumption) ?_
      rotate_left 1
      · intro w0 hSw
        go_simp <;> with_reducible rfl
      try simp only [Act.put, List.getElem_toArray, List.getElem_cons_zero, List.getElem_cons_succ, List.setIfInBounds_toArray, List.set_cons_zero, List.set_cons_succ]
      refine wpAnyH_take (i := 5) (v := ?_) rfl (by kernel_rfl) (by kernel_rfl) (by kernel_rfl) (fun _ _ _ h => h) (.inl ⟨by rfl, ?_⟩) (by assumption) ?_
      rotate_left 1
      · intro w0 hSw
        obtain ⟨z0, z1⟩ := hSw
        go_simp <;> with_reducible rfl
      try simp only [Act.put, List.getElem_toArray, List.getElem_cons_zero, List.getElem_cons_succ, List.setIfInBounds_toArray, List.set_cons_zero, List.set_cons_succ]
      refine wpAnyH_take (i := 6) (v := ?_) rfl (by kernel_rfl) (by kernel_rfl) (by kernel_rfl) (fun _ _ _ h => h) (.inl ⟨by rfl, ?_⟩) (by assumption) ?_
      rotate_left 1
      · intro w0 hSw
        go_simp <;> with_reducible rfl
      try simp only [Act.put, List.getElem_toArray, List.getElem_cons_zero, List.getElem_cons_succ, List.setIfInBounds_toArray, List.set_cons_zero, List.set_cons_succ]
      refine wpAnyH_take (i := 7) (v := ?_) rfl (by kernel_rfl) (by kernel_rfl) (by kernel_rfl) (fun _ _ _ h => h) (.inl ⟨by rfl, ?_⟩) (by assumption) ?_
      rotate_left 1
      · intro w0 hSw
        go_simp <;> with_reducible rfl
      try simp only [Act.put, List.getElem_toArray, List.getElem_cons_zero, List.getElem_cons_succ, List.setIfInBounds_toArray, List.set_cons_zero, List.set_cons_succ]
      refine wpAnyH_take (i := 8) (v := ?_) rfl (by kernel_rfl) (by kernel_rfl) (by kernel_rfl) (fun _ _ _ h => h) (.inl ⟨by rfl, ?_⟩) (by assumption) ?_
      rotate_left 1
      · intro w0 hSw
        go_simp <;> with_reducible rfl
      try simp only [Act.put, List.getElem_toArray, List.getElem_cons_zero, List.getElem_cons_succ, List.setIfInBounds_toArray, List.set_cons_zero, List.set_cons_succ]
      refine wpAnyH_take (i := 9) (v := ?_) rfl (by kernel_rfl) (by kernel_rfl) (by kernel_rfl) (fun _ _ _ h => h) (.inl ⟨by rfl, ?_⟩) (by assumption) ?_
      rotate_left 1
      · intro w0 hSw
        go_simp <;> with_reducible rfl
      try simp only [Act.put, List.getElem_toArray, List.getElem_cons_zero, List.getElem_cons_succ, List.setIfInBounds_toArray, List.set_cons_zero, List.set_cons_succ]
      refine wpAnyH_take (i := 10) (v := ?_) rfl (by kernel_rfl) (by kernel_rfl) (by kernel_rfl) (fun _ _ _ h => h) (.inl ⟨by rfl, ?_⟩) (by assumption) ?_
      rotate_left 1
      · intro w0 hSw
        obtain ⟨z0, z1⟩ := hSw
        go_simp <;> with_reducible rfl
      try simp only [Act.put, List.getElem_toArray, List.getElem_cons_zero, List.getElem_cons_succ, List.setIfInBounds_toArray, List.set_cons_zero, List.set_cons_succ]
      refine wpAnyH_take (i := 11) (v := ?_) rfl (by kernel_rfl) (by kernel_rfl) (by kernel_rfl) (fun _ _ _ h => h) (.inl ⟨by rfl, ?_⟩) (by assumption) ?_
      rotate_left 1
      · intro w0 hSw
        go_simp <;> with_reducible rfl
      try simp only [Act.put, List.getElem_toArray, List.getElem_cons_zero, List.getElem_cons_succ, List.setIfInBounds_toArray, List.set_cons_zero, List.set_cons_succ]
      refine wpAnyH_take (i := 12) (v := ?_) rfl (by kernel_rfl) (by kernel_rfl) (by kernel_rfl) (fun _ _ _ h => h) (.inl ⟨by rfl, ?_⟩) (by assumption) ?_
      rotate_left 1
      · intro w0 hSw
        go_simp <;> with_reducible rfl
      try simp only [Act.put, List.getElem_toArray, List.getElem_cons_zero, List.getElem_cons_succ, List.setIfInBounds_toArray, List.set_cons_zero, List.set_cons_succ]
      refine wpAnyH_take (i := 13) (v := ?_) rfl (by kernel_rfl) (by kernel_rfl) (by kernel_rfl) (fun _ _ _ h => h) (.inl ⟨by rfl, ?_⟩) (by assumption) ?_
      rotate_left 1
      · intro w0 hSw
        go_simp <;> with_reducible rfl
      try simp only [Act.put, List.getElem_toArray, List.getElem_cons_zero, List.getElem_cons_succ, List.setIfInBounds_toArray, List.set_cons_zero, List.set_cons_succ]
      refine wpAnyH_take (i := 14) (v := ?_) rfl (by kernel_rfl) (by kernel_rfl) (by kernel_rfl) (fun _ _ _ h => h) (.inl ⟨by rfl, ?_⟩) (by assumption) ?_
      rotate_left 1
      · intro w0 hSw
        go_simp <;> with_reducible rfl
      try simp only [Act.put, List.getElem_toArray, List.getElem_cons_zero, List.getElem_cons_succ, List.setIfInBounds_toArray, List.set_cons_zero, List.set_cons_succ]
      refine wpAnyH_take (i := 15) (v := ?_) rfl (by kernel_rfl) (by kernel_rfl) (by kernel_rfl) (fun _ _ _ h => h) (.inl ⟨by rfl, ?_⟩) (by assumption) ?_
      rotate_left 1
      · intro w0 hSw
        obtain ⟨z0, z1⟩ := hSw
        go_simp <;> with_reducible rfl
      try simp only [Act.put, List.getElem_toArray, List.getElem_cons_zero, List.getElem_cons_succ, List.setIfInBounds_toArray, List.set_cons_zero, List.set_cons_succ]
      refine wpAnyH_take (i := 16) (v := ?_) rfl (by kernel_rfl) (by kernel_rfl) (by kernel_rfl) (fun _ _ _ h => h) (.inl ⟨by rfl, ?_⟩) (by assumption) ?_
      rotate_left 1
      · intro w0 hSw
        go_simp <;> with_reducible rfl
      try simp only [Act.put, List.getElem_toArray, List.getElem_cons_zero, List.getElem_cons_succ, List.setIfInBounds_toArray, List.set_cons_zero, List.set_cons_succ]
      refine wpAnyH_take (i := 17) (v := ?_) rfl (by kernel_rfl) (by kernel_rfl) (by kernel_rfl) (fun _ _ _ h => h) (.inl ⟨by rfl, ?_⟩) (by assumption) ?_
      rotate_left 1
      · intro w0 hSw
        go_simp <;> with_reducible rfl
      try simp only [Act.put, List.getElem_toArray, List.getElem_cons_zero, List.getElem_cons_succ, List.setIfInBounds_toArray, List.set_cons_zero, List.set_cons_succ]
      refine wpAnyH_take (i := 18) (v := ?_) rfl (by kernel_rfl) (by kernel_rfl) (by kernel_rfl) (fun _ _ _ h => h) (.inl ⟨by rfl, ?_⟩) (by assumption) ?_
      rotate_left 1
      · intro w0 hSw
        go_simp <;> with_reducible rfl
      try simp only [Act.put, List.getElem_toArray, List.getElem_cons_zero, List.getElem_cons_succ, List.setIfInBounds_toArray, List.set_cons_zero, List.set_cons_succ]
      refine wpAnyH_take (i := 19) (v := ?_) rfl (by kernel_rfl) (by kernel_rfl) (by kernel_rfl) (fun _ _ _ h => h) (.inl ⟨by rfl, ?_⟩) (by assumption) ?_
      rotate_left 1
      · intro w0 hSw
        go_simp <;> with_reducible rfl
      try simp only [Act.put, List.getElem_toArray, List.getElem_cons_zero, List.getElem_cons_succ, List.setIfInBounds_toArray, List.set_cons_zero, List.set_cons_succ]
      refine wpAnyH_ready (rs := [20]) (by kernel_rfl) (by simp) ?_
      refine AllReadyH.cons rfl (fun K hK => ?_) AllReadyH.nil
      go_simp
      obtain ⟨w2, hal⟩ : ∃ W, (wr.alloc (.cells #[.string ⟨ky.toArray⟩, .string ((⟨vl.toArray⟩ : ByteArray).extract 0 q)] 40)).drew = W := ⟨_, rfl⟩
      have hb2 : Below wr.heap.size wr w2 := by rw [← hal]; exact (laid1 wr _).drew
      have b2 : Below w.heap.size w w2 := HB.out.trans (hb2.mono HB.out.size)
      have HO2 := Lib.hid (HO1.out.after hb2)
      have hn2 : HasCells w2 wr.heap.size [.string ⟨ky.toArray⟩, .string ((⟨vl.toArray⟩ : ByteArray).extract 0 q)] 40 := by rw [← hal]; exact (HasCells.new wr [.string ⟨ky.toArray⟩, .string ((⟨vl.toArray⟩ : ByteArray).extract 0 q)] 40).kept rfl
      rw [HX.out] at hn2
      have HN2 := Lib.hid hn2
      have HB2 := Lib.hid b2
      rw [hal]
      clear hal hn2 b2 hb2
      refine hK.out _ _ (HS.out _ HB2.out) (fun hHeld => ?_)
      clear hK K
      try simp only [Act.put, List.getElem_toArray, List.getElem_cons_zero, List.getElem_cons_succ, List.setIfInBounds_toArray, List.set_cons_zero, List.set_cons_succ]
      refine wpAnyH_ready (rs := [21]) (by kernel_rfl) (by simp) ?_
      refine AllReadyH.cons rfl (fun K hK => ?_) AllReadyH.nil
      refine step_appendP (by rfl) _ _ rfl w.heap.size _ L rfl HO2.out ⟨wr.heap.size, 0, none⟩ 1 (ky, vl.take 100) rfl ?f0 ?f1 ?f2 ?_
      case f0 => exact fun j u hu => by rw [addr_add]; exact HN2.out.cell hu
      case f1 => rw [HLL.out]; omega
      case f2 => exact HB2.out.size
      intro v3 w3 ho3 hg3
      have b3 : Below w.heap.size w w3 := HB2.out.grown hg3 HB2.out.size (fun q e => (HO2.out.lt q e).1)
      have ho3b : OwnP w.heap.size w3 v3 ((fewP 40 ps).take (k + 1)) := by rw [HTS.out]; exact ho3
      have HO3 := Lib.hid ho3b
      have HB3 := Lib.hid b3
      clear ho3 hg3 ho3b b3
      refine hK.out _ _ (HS.out _ HB3.out) (fun hHeld => ?_)
      clear hK K
      try simp only [Act.put, List.getElem_toArray, List.getElem_cons_zero, List.getElem_cons_succ, List.setIfInBounds_toArray, List.set_cons_zero, List.set_cons_succ]
      refine wpAnyH_take (i := 22) (v := ?_) rfl (by kernel_rfl) (by kernel_rfl) (by kernel_rfl) (fun _ _ _ h => h) (.inl ⟨by rfl, ?_⟩) (by assumption) ?_
      rotate_left 1
      · intro w0 hSw
        go_simp <;> with_reducible rfl
      try simp only [Act.put, List.getElem_toArray, List.getElem_cons_zero, List.getElem_cons_succ, List.setIfInBounds_toArray, List.set_cons_zero, List.set_cons_succ]
      refine wpAnyH_done (by kernel_rfl) ?_ 0
      go_wp2_with fail
      go_roundw
      case rel => exact ⟨k + 1, by omega, by go_num, HO3.out, HB3.out⟩
      case measure => simp [RowKit.intOf]; omega
    · have hmk : k = m := by omega
      subst hmk
      have ho := HO.out
      rw [List.take_of_length_le (by rw [HM.out]; exact Nat.le_refl _)] at ho
      obtain ⟨pv, cv, hv⟩ := ho.form
      rw [HM.out] at hv
      subst hv
      have HO1 := Lib.hid ho
      clear ho HO
      by_cases hkn : k < n
      · have g2 : (k : Int) < n := by omega
        have g3 : ¬ (k : Int) < 40 := by have := HMN.out; omega
        go_wp2
        go_ret
        exact ⟨_, _, rfl, HO1.out, HB.out⟩
      · have g2 : ¬ (k : Int) < n := by omega
        go_wp2
        go_ret
        exact ⟨_, _, rfl, HO1.out, HB.out⟩
theorem four_rootR : rootR fourP = (kdD, 0) := by rw [four_root, four_root06]
set_option maxRecDepth 100000 in
set_option maxHeartbeats 6400000 in
theorem shown06_any (w : World) (hK : KecT w) : Calls Tryz.prog 5 #[] w fun e w' => e = .returned (.bool true) ∧ Below w.heap.size w w' := by
  have hB4 : ∀ q ∈ fourP, q.1.length ≤ 1099511627776 ∧ q.2.length ≤ 1099511627776 := by decide
  have r1 : kdD.length = 32 := by decide
  have r2 : kdD.take 4 = [89, 145, 187, 140] := by decide
  have r3 := kecD
  obtain ⟨wt, hwt⟩ := four_way06
  obtain ⟨rt, hrt⟩ : ∃ x, kdD = x := ⟨_, rfl⟩
  obtain ⟨b0, hb0⟩ : ∃ x, ktD = x := ⟨_, rfl⟩
  have r4 : b0.length ≤ 1000 := by rw [← hb0]; decide
  obtain ⟨b1, hb1⟩ : ∃ x, ktC = x := ⟨_, rfl⟩
  rw [hb0, hb1] at hwt
  rw [hb0, hrt] at r3
  rw [hrt] at r1 r2
  have HR : Hid (∀ v W, Pairs W v fourP → KecT W → Calls Tryz.prog 7 #[v] W fun e w' => e = .returned (.tuple #[.string ⟨rt.toArray⟩, .int .i64 0]) ∧ Below W.heap.size W w') := Lib.hid fun v W hp hk => by
    have h := trieRootTop_any fourP v W hp (by decide) hB4 hk
    rw [four_rootR, hrt] at h
    exact h
  have HD : Hid (∀ v W, Pairs W v fourP → KecT W → Calls Tryz.prog 13 #[v, .string ⟨#[100, 111, 103]⟩] W (TextsR W (b0 :: b1 :: wt) 0)) := Lib.hid fun v W hp hk => by
    have h := trieProve_any fourP [100, 111, 103] v W hp (by decide) hB4 (by decide) hk
    rw [four_prove, hwt] at h
    exact h
  have HS := Lib.hid (fun W => rkSum_l r3 (by omega) W)
  have HKT := Lib.hid hK
  have hsz : (⟨rt.toArray⟩ : ByteArray).size = 32 := by rw [← r1]; rfl
  have hex : (⟨rt.toArray⟩ : ByteArray).extract 0 4 = ⟨#[89, 145, 187, 140]⟩ := by rw [extract_bt, r2]
  obtain ⟨wl, hwl⟩ : ∃ n, (b0 :: b1 :: wt).length = n := ⟨_, rfl⟩
  have g2 : (2 : Int) ≤ wl := by rw [← hwl]; simp only [List.length_cons]; omega
  have HWL := Lib.hid hwl
  clear hrt hb0 hb1 hwt r1 r2 r3 r4 hK hwl hB4
  go_enter Tryz.func5, Tryz.ntmps5
  go_wp2_with fail
  refine (four06_any _).mono ?_
  rintro e w1 ⟨⟨v1, rfl, hp1⟩, hb1⟩
  have HB1 := Lib.hid hb1
  have HP1 := Lib.hid hp1
  clear hb1 hp1
  go_wp2_with fail
  refine (HR.out _ _ HP1.out (HKT.out.belowP HB1.out)).mono ?_
  rintro e w2 ⟨rfl, hb2⟩
  have HB2 := Lib.hid (HB1.out.trans (hb2.mono HB1.out.size))
  clear hb2 HP1 HB1
  go_wp2_with fail
  refine (four06_any _).mono ?_
  rintro e w3 ⟨⟨v3, rfl, hp3⟩, hb3⟩
  have HB3 := Lib.hid (HB2.out.trans (hb3.mono HB2.out.size))
  have HP3 := Lib.hid hp3
  clear hb3 hp3 HB2
  go_wp2_with fail
  refine (HD.out _ _ HP3.out (HKT.out.belowP HB3.out)).mono ?_
  rintro e w4 ⟨p4, c4, rfl, ho4, hb4⟩
  have HB4 := Lib.hid (HB3.out.trans (hb4.mono HB3.out.size))
  obtain ⟨q4, d4, hv4, -, hor4⟩ := ho4.strs
  rw [List.length_map] at hv4
  obtain rfl : p4 = q4 := by injection hv4
  obtain ⟨bk, o, rfl, hbk, hcl⟩ := hor4.resolve_left (by simp)
  have c0 := hcl 0 _ rfl
  rw [Nat.add_zero] at c0
  rw [show bt b0 = ⟨b0.toArray⟩ from rfl] at c0
  rw [HWL.out]
  have g3 : (0 : Int) < wl := by omega
  have g4 : 0 < wl := by omega
  clear hb4 ho4 HP3 HB3 hcl hv4
  go_wp2_with fail
  refine (HS.out _).mono ?_
  rintro e w5 ⟨rfl, hb5⟩
  have HB5 := Lib.hid (HB4.out.trans (hb5.mono HB4.out.size))
  clear hb5 HB4
  go_wp2_with fail
  go_ret
  exact ⟨rfl, HB5.out⟩
end Go.Proofs.YthicdhnjincflaaGreatDoor
