/- What the walks take: TrgC, TrgD, TrgF, TrgG, TrgH, TrgI, TrgP, TrgJ, TrgL. -/
import Derived.Test.YthicdhnjincflaaGreatDoorU0
import Derived.Test.YthicdhnjincflaaGreatDoorU4
import Derived.Test.YthicdhnjincflaaGreatDoorU10
import Derived.Test.YthicdhnjincflaaGreatDoorU13
import Derived.Test.YthicdhnjincflaaGreatDoorU24
import Derived.Test.YthicdhnjincflaaGreatDoorU26
import Derived.Test.YthicdhnjincflaaGreatDoorU27
import Derived.OwnWalkIn
import Derived.TacticsInMore
import Derived.LoopNIn
import Derived.LoopIn
namespace Go.Proofs.YthicdhnjincflaaGreatDoor
open Go.RowKit Go.Shelf Go.Lib
attribute [local go_sem] Oper.semAt_some
def cutF (n : Nat) (x : PairD) : PairD := (x.1.drop n, x.2)
theorem extract_drop (s : List UInt8) (m : Nat) : (⟨s.toArray⟩ : ByteArray).extract m s.length = ⟨(s.drop m).toArray⟩ := by
  apply ByteArray.ext
  rw [ByteArray.data_extract]
  show s.toArray.extract m s.length = (s.drop m).toArray
  simp
  rw [List.take_of_length_le (by simp)]
set_option maxRecDepth 100000 in
set_option maxHeartbeats 6400000 in
theorem behind_any (ls : List PairD) (N : Nat) (v : Value) (w : World) (hv : Pairs w v ls) (hlen : ls.length ≤ 1099511627775) (hcut : ∀ x ∈ ls, N ≤ x.1.length) :
    Calls Tryz.prog 59 #[v, .int .i64 N] w fun e w' => ∃ p c, e = .returned (.slice p ls.length c) ∧ OwnF w.heap.size w' (.slice p ls.length c) (ls.map (cutF N)) ∧ Below w.heap.size w w' := by
  obtain ⟨p, c, rfl, hc, hcell⟩ := hv
  have HC := Lib.hid hcell
  obtain ⟨n, hn⟩ : ∃ n, ls.length = n := ⟨_, rfl⟩
  rw [hn] at hc hlen ⊢
  have HN := Lib.hid hn
  have HCU := Lib.hid hcut
  clear hcell hn hcut
  go_enter Tryz.func59, Tryz.ntmps59
  go_wp2_with fail
  go_loopw [5, 10] (fun v i wr => ∃ k : Nat, k ≤ n ∧ i = .int .i64 k ∧ Aside (OwnF w.heap.size wr v ((ls.take k).map (cutF N))) ∧ Aside (Below w.heap.size w wr)) (fun _ i _ => n - (RowKit.intOf i).toNat)
  case atStart => exact ⟨0, Nat.zero_le _, rfl, OwnF.nil _ _, Below.refl _ _⟩
  case round =>
    obtain ⟨k, hk, rfl, HO, HB⟩ := hrel
    by_cases hlt : k < n
    · obtain ⟨s, hs⟩ : ∃ s, ls[k]? = some s := ⟨_, List.getElem?_eq_getElem (by rw [HN.out]; exact hlt)⟩
      obtain ⟨bk, o, rfl, hbk, hcl⟩ : ∃ bk o, p = some ⟨bk, o, none⟩ ∧ bk < w.heap.size ∧ ∀ (j : Nat) q, ls[j]? = some q → w.cell? ⟨bk, o + j * 2, none⟩ = some (.string ⟨q.1.toArray⟩) ∧ w.cell? ⟨bk, o + j * 2 + 1, none⟩ = some (.string ⟨q.2.toArray⟩) := by
        rcases HC.out with h | ⟨bk, o, h1, h2, h3⟩
        · have h4 := congrArg List.length h
          rw [HN.out] at h4
          simp at h4
          omega
        · exact ⟨bk, o, h1, h2, h3⟩
      have c0 := (HB.out.cell (p := ⟨bk, o + k * 2, none⟩) hbk).trans (hcl k s hs).1
      have c1 := (HB.out.cell (p := ⟨bk, o + k * 2 + 1, none⟩) hbk).trans (hcl k s hs).2
      have hts : (ls.take (k + 1)).map (cutF N) = (ls.take k).map (cutF N) ++ [cutF N s] := by rw [List.take_add_one, hs]; simp
      have hll : ((ls.take k).map (cutF N)).length = k := by rw [List.length_map, List.length_take, HN.out]; omega
      obtain ⟨L, hL⟩ : ∃ L, (ls.take k).map (cutF N) = L := ⟨_, rfl⟩
      have ho := HO.out
      rw [hL] at hts hll ho
      obtain ⟨pv, cv, hv⟩ := ho.form
      rw [hll] at hv
      subst hv
      have HTS := Lib.hid hts
      have HLL := Lib.hid hll
      have g1 : (0 : Int) ≤ k := by omega
      have g2 : (k : Int) < n := by omega
      have hcs := HCU.out s (List.mem_of_getElem? hs)
      obtain ⟨ky, vl⟩ := s
      have hsz : (⟨ky.toArray⟩ : ByteArray).size = ky.length := rfl
      dsimp only at c0 c1 hcs
      have g3 : (0 : Int) ≤ (N : Int) := by omega
      have g4 : (N : Int) ≤ (ky.length : Int) := by omega
      have hx := extract_drop ky N
      have HX := Lib.hid hx
      have HNE := Lib.hid (show (Value.slice pv k cv).ownBlock ≠ some wr.heap.size from fun e => by have := (ho.lt _ e).2; omega)
      have HQ := Lib.hid (HasCells.new wr [.string ⟨ky.toArray⟩, .string ⟨vl.toArray⟩] 69)
      have HBA := Lib.hid (HB.out.alloc HB.out.size (.cells #[.string ⟨ky.toArray⟩, .string ⟨vl.toArray⟩] 69))
      have HO1 := Lib.hid (ho.alloc (.cells #[.string ⟨ky.toArray⟩, .string ⟨vl.toArray⟩] 69))
      have hws := HB.out.size
      clear ho hts hll hL HO hs hcl hx hcs
      go_wp2_with fail
      obtain ⟨w0, hw0⟩ : ∃ W, wr.alloc (.cells #[.string ⟨ky.toArray⟩, .string ⟨vl.toArray⟩] 69) = W := ⟨_, rfl⟩
      rw [hw0] at HQ HBA HO1 ⊢
      have HSW : Hid (∀ W, Below w0.heap.size w0 W → W.cell? ⟨wr.heap.size, 0, none⟩ = some (.string ⟨ky.toArray⟩) ∧ W.cell? ⟨wr.heap.size, 1, none⟩ = some (.string ⟨vl.toArray⟩)) := Lib.hid fun W hb => ⟨(HQ.out.after hb).cell (j := 0) rfl, (HQ.out.after hb).cell (j := 1) rfl⟩
      have hgs : wr.heap.size < w0.heap.size := by rw [← hw0]; simp
      clear hw0 c0 c1
      refine wp_region_held_drew (S := (fun W => W.cell? ⟨wr.heap.size, 0, none⟩ = some (.string ⟨ky.toArray⟩) ∧ W.cell? ⟨wr.heap.size, 1, none⟩ = some (.string ⟨vl.toArray⟩))) (by kernel_rfl) (HSW.out _ (Below.refl _ _).drew) (fun hHeld => ?_)
      refine wpAnyH_take (i := 0) (v := ?_) rfl (by kernel_rfl) (by kernel_rfl) (by kernel_rfl) (fun _ _ _ h => h) (.inl ⟨by rfl, ?_⟩) (by assumption) ?_
      rotate_left 1
      · intro w0 hSw
        go_simp <;> with_reducible rfl
      try simp only [Act.put, zq1, zq2, zq4, zq5, zq6]
      refine wpAnyH_take (i := 1) (v := ?_) rfl (by kernel_rfl) (by kernel_rfl) (by kernel_rfl) (fun _ _ _ h => h) (.inl ⟨by rfl, ?_⟩) (by assumption) ?_
      rotate_left 1
      · intro w0 hSw
        go_simp <;> with_reducible rfl
      try simp only [Act.put, zq1, zq2, zq3, zq4, zq5, zq6]
      refine wpAnyH_take (i := 2) (v := ?_) rfl (by kernel_rfl) (by kernel_rfl) (by kernel_rfl) (fun _ _ _ h => h) (.inl ⟨by rfl, ?_⟩) (by assumption) ?_
      rotate_left 1
      · intro w0 hSw
        obtain ⟨z0, z1⟩ := hSw
        go_simp <;> with_reducible rfl
      try simp only [Act.put, zq1, zq2, zq3, zq4, zq5, zq6]
      refine wpAnyH_take (i := 3) (v := ?_) rfl (by kernel_rfl) (by kernel_rfl) (by kernel_rfl) (fun _ _ _ h => h) (.inl ⟨by rfl, ?_⟩) (by assumption) ?_
      rotate_left 1
      · intro w0 hSw
        go_simp <;> with_reducible rfl
      try simp only [Act.put, zq1, zq2, zq3, zq4, zq5, zq6]
      refine wpAnyH_take (i := 4) (v := ?_) rfl (by kernel_rfl) (by kernel_rfl) (by kernel_rfl) (fun _ _ _ h => h) (.inl ⟨by rfl, ?_⟩) (by assumption) ?_
      rotate_left 1
      · intro w0 hSw
        go_simp <;> with_reducible rfl
      try simp only [Act.put, zq1, zq2, zq3, zq4, zq5, zq6]
      refine wpAnyH_take (i := 5) (v := ?_) rfl (by kernel_rfl) (by kernel_rfl) (by kernel_rfl) (fun _ _ _ h => h) (.inl ⟨by rfl, ?_⟩) (by assumption) ?_
      rotate_left 1
      · intro w0 hSw
        go_simp <;> with_reducible rfl
      try simp only [Act.put, zq1, zq2, zq3, zq4, zq5, zq6]
      refine wpAnyH_take (i := 6) (v := ?_) rfl (by kernel_rfl) (by kernel_rfl) (by kernel_rfl) (fun _ _ _ h => h) (.inl ⟨by rfl, ?_⟩) (by assumption) ?_
      rotate_left 1
      · intro w0 hSw
        obtain ⟨z0, z1⟩ := hSw
        go_simp <;> with_reducible rfl
      try simp only [Act.put, zq1, zq2, zq3, zq4, zq5, zq6]
      refine wpAnyH_take (i := 7) (v := ?_) rfl (by kernel_rfl) (by kernel_rfl) (by kernel_rfl) (fun _ _ _ h => h) (.inl ⟨by rfl, ?_⟩) (by assumption) ?_
      rotate_left 1
      · intro w0 hSw
        go_simp <;> with_reducible rfl
      try simp only [Act.put, zq1, zq2, zq3, zq4, zq5, zq6]
      refine wpAnyH_ready (rs := [8]) (by kernel_rfl) (by simp) ?_
      refine AllReadyH.cons rfl (fun K hK => ?_) AllReadyH.nil
      go_simp
      obtain ⟨w2, hal⟩ : ∃ W, (w0.alloc (.cells #[.string ((⟨ky.toArray⟩ : ByteArray).extract N ky.length), .string ⟨vl.toArray⟩] 69)).drew = W := ⟨_, rfl⟩
      have hb2 : Below w0.heap.size w0 w2 := by rw [← hal]; exact (laid1 w0 _).drew
      have b2 : Below w.heap.size w w2 := HBA.out.trans (hb2.mono HBA.out.size)
      have HO2 := Lib.hid (HO1.out.after hb2)
      have HSW2 := Lib.hid (HSW.out _ hb2)
      have hn2 : HasCells w2 w0.heap.size [.string ((⟨ky.toArray⟩ : ByteArray).extract N ky.length), .string ⟨vl.toArray⟩] 69 := by rw [← hal]; exact (HasCells.new w0 [.string ((⟨ky.toArray⟩ : ByteArray).extract N ky.length), .string ⟨vl.toArray⟩] 69).kept rfl
      rw [HX.out] at hn2
      have HN2 := Lib.hid hn2
      have HB2 := Lib.hid b2
      have hs2 := hb2.size
      rw [hal]
      clear hal hn2 b2 hb2
      refine hK.out _ _ (HSW2.out) (fun hHeld => ?_)
      clear hK K
      try simp only [Act.put, zq1, zq2, zq3, zq4, zq5, zq6]
      refine wpAnyH_ready (rs := [9]) (by kernel_rfl) (by simp) ?_
      refine AllReadyH.cons rfl (fun K hK => ?_) AllReadyH.nil
      refine step_appendF (by rfl) _ _ rfl w.heap.size _ L rfl HO2.out ⟨w0.heap.size, 0, none⟩ 1 (ky.drop N, vl) rfl ?f0 ?f1 ?f2 ?_
      case f0 => exact fun j u hu => by rw [addr_add]; exact HN2.out.cell hu
      case f1 => rw [HLL.out]; omega
      case f2 => exact HB2.out.size
      intro v3 w3 ho3 hg3
      have b3 : Below w.heap.size w w3 := HB2.out.grown hg3 HB2.out.size (fun q e => (HO2.out.lt q e).1)
      have ho3b : OwnF w.heap.size w3 v3 ((ls.take (k + 1)).map (cutF N)) := by rw [HTS.out]; exact ho3
      have HSW3 : Hid (w3.cell? ⟨wr.heap.size, 0, none⟩ = some (.string ⟨ky.toArray⟩) ∧ w3.cell? ⟨wr.heap.size, 1, none⟩ = some (.string ⟨vl.toArray⟩)) := Lib.hid ⟨hg3.cell HSW2.out.1 (fun e => HNE.out e.symm), hg3.cell HSW2.out.2 (fun e => HNE.out e.symm)⟩
      have HO3 := Lib.hid ho3b
      have HB3 := Lib.hid b3
      clear ho3 hg3 ho3b b3
      refine hK.out _ _ (HSW3.out) (fun hHeld => ?_)
      clear hK K
      try simp only [Act.put, zq1, zq2, zq3, zq4, zq5, zq6]
      refine wpAnyH_take (i := 10) (v := ?_) rfl (by kernel_rfl) (by kernel_rfl) (by kernel_rfl) (fun _ _ _ h => h) (.inl ⟨by rfl, ?_⟩) (by assumption) ?_
      rotate_left 1
      · intro w0 hSw
        go_simp <;> with_reducible rfl
      try simp only [Act.put, zq1, zq2, zq3, zq4, zq5, zq6]
      refine wpAnyH_done (by kernel_rfl) ?_ 0
      go_wp2_with fail
      go_roundw
      case rel => exact ⟨k + 1, by omega, by go_num, HO3.out, HB3.out⟩
      case measure => simp [RowKit.intOf]; omega
    · have hmk : k = n := by omega
      subst hmk
      have ho := HO.out
      rw [List.take_of_length_le (by rw [HN.out]; exact Nat.le_refl _)] at ho
      obtain ⟨pv, cv, hv⟩ := ho.form
      rw [List.length_map, HN.out] at hv
      subst hv
      have HO1 := Lib.hid ho
      clear ho HO
      go_wp2
      go_ret
      exact ⟨_, _, rfl, HO1.out, HB.out⟩
theorem infoItemT : (Tryz.prog.info? 46).map (·.size) = some 3 := by kernel_rfl
set_option maxRecDepth 100000 in
set_option maxHeartbeats 1600000 in
theorem growForm_any (path : List UInt8) (leaf : Bool) (w : World) (hp : path.length ≤ 1000) :
    Calls Tryz.prog 54 #[.string ⟨path.toArray⟩, .bool leaf] w fun e w' => e = .returned (.agg #[.bool false, .string ⟨(form path leaf).1.toArray⟩, .slice none 0 0]) ∧ Below w.heap.size w w' := by
  have HF : Hid (∀ W, Calls Tryz.prog 55 #[.string ⟨path.toArray⟩, .bool leaf] W fun e w' => e = .returned (formV path leaf) ∧ Below W.heap.size W w') := Lib.hid fun W => form_any ⟨path.toArray⟩ leaf W (by show path.length ≤ _; omega)
  obtain ⟨fb, fe, hf⟩ : ∃ x e, form path leaf = (x, e) := ⟨_, _, rfl⟩
  rw [formV_of hf] at HF
  rw [hf]
  dsimp only
  clear hf
  have HT := Lib.hid (fun W => rlpText_any fb W)
  have HZ0 := Lib.hid (HasCells.new w [.bool false, .string ⟨#[]⟩, .slice none 0 0] 46)
  have HB0 := Lib.hid (laid1 w (.cells #[.bool false, .string ⟨#[]⟩, .slice none 0 0] 46))
  go_enter Tryz.func54, Tryz.ntmps54
  go_wp2_with fail
  refine (HF.out _).mono ?_
  rintro e w1 ⟨rfl, hb1⟩
  have HB1 := Lib.hid (HB0.out.trans (hb1.mono HB0.out.size))
  have HZ1 := Lib.hid (HZ0.out.after hb1)
  clear hb1 HB0 HZ0
  go_wp2_with fail
  refine (HT.out _).mono ?_
  rintro e w2 ⟨rfl, hb2⟩
  have HB2 := Lib.hid (HB1.out.trans (hb2.mono HB1.out.size))
  have HZ2 := Lib.hid (HZ1.out.after hb2)
  clear hb2 HB1 HZ1
  have e0 := HZ2.out.cell (j := 0) rfl
  have e1 := HZ2.out.cell (j := 1) rfl
  have e2 := HZ2.out.cell (j := 2) rfl
  have f0 := HZ2.out.frozen 0
  have f1 := HZ2.out.frozen 1
  have f2 := HZ2.out.frozen 2
  go_wp2_with fail
  have hfz := ((HZ2.out.set 0 (.bool false)).set 1 (.string ⟨fb.toArray⟩)).set 2 (.slice none 0 0)
  refine bodyPost_ret (results_cells rfl _ _ w.heap.size [.bool false, .string ⟨fb.toArray⟩, .slice none 0 0] _ (by rfl) (HasCells.kept hfz rfl).range Tryz.underlying46 rfl infoItemT) rfl ?_
  exact ⟨rfl, three_at HB2.out (Nat.le_refl _) _ _ _⟩
theorem isNaN_any (s : ByteArray) (w : World) : Calls Tryz.prog 53 #[.string s] w fun e w' => e = .returned (.bool false) ∧ w' = w := by
  go_enter Tryz.func53, Tryz.ntmps53
  go_wp2_with fail
  go_ret
  exact ⟨by simp, rfl⟩
def cmpB (a b : List UInt8) : Int := if Op.bytesLess a b then -1 else if a = b then 0 else 1
set_option maxRecDepth 100000 in
theorem compare_any (a b : List UInt8) (w : World) : Calls Tryz.prog 33 #[.string ⟨a.toArray⟩, .string ⟨b.toArray⟩] w fun e w' => e = .returned (.int .i64 (cmpB a b)) ∧ w' = w := by
  have H1 := Lib.hid (fun s w => isNaN_any s w)
  obtain ⟨r, hr⟩ : ∃ r, cmpB a b = r := ⟨_, rfl⟩
  rw [hr]
  unfold cmpB at hr
  have ta : (⟨a.toArray⟩ : ByteArray).toList = a := by rw [ByteArray.toList_eq]
  have tb : (⟨b.toArray⟩ : ByteArray).toList = b := by rw [ByteArray.toList_eq]
  cases hl : Op.bytesLess a b with
  | true =>
    rw [hl, if_pos rfl] at hr
    subst hr
    go_enter Tryz.func33, Tryz.ntmps33
    go_wp2_with fail
    refine (H1.out _ _).mono ?_
    rintro e w1 ⟨rfl, rfl⟩
    go_wp2_with fail
    refine (H1.out _ _).mono ?_
    rintro e w2 ⟨rfl, rfl⟩
    go_wp2_with fail
    go_ret
    exact ⟨rfl, rfl⟩
  | false =>
    rw [hl, if_neg (by simp)] at hr
    by_cases hab : a = b
    · rw [if_pos hab] at hr
      subst hr
      have q1 : (a == b) = true := by rw [hab]; exact beq_self_eq_true b
      clear hab
      go_enter Tryz.func33, Tryz.ntmps33
      go_wp2_with fail
      refine (H1.out _ _).mono ?_
      rintro e w1 ⟨rfl, rfl⟩
      go_wp2_with fail
      refine (H1.out _ _).mono ?_
      rintro e w2 ⟨rfl, rfl⟩
      go_wp2_with fail
      go_ret
      exact ⟨rfl, rfl⟩
    · rw [if_neg hab] at hr
      subst hr
      have q1 : (a == b) = false := by rw [beq_eq_false_iff_ne]; exact hab
      go_enter Tryz.func33, Tryz.ntmps33
      go_wp2_with fail
      refine (H1.out _ _).mono ?_
      rintro e w1 ⟨rfl, rfl⟩
      go_wp2_with fail
      refine (H1.out _ _).mono ?_
      rintro e w2 ⟨rfl, rfl⟩
      go_wp2_with fail
      go_ret
      exact ⟨rfl, rfl⟩
end Go.Proofs.YthicdhnjincflaaGreatDoor

namespace Go.Proofs.YthicdhnjincflaaGreatDoor
open Go.RowKit Go.Shelf Go.Lib
theorem infoPtrN : (Tryz.prog.info? 41).map (fun i => (i.zero, i.size, i.bytes)) = some (some (.pointer none), 1, 8) := by kernel_rfl
def ptrN (g : Nat) : Value := .pointer (some ⟨g, 0, none⟩)
def OwnN (base : Nat) (w : World) (v : Value) (l : List Nat) : Prop := w.ownsRow base 41 1 v l.length (l.map ptrN)
theorem OwnN.nil (base : Nat) (w : World) : OwnN base w (.slice none 0 0) [] := World.ownsRow_nil _ _ _ _
theorem OwnN.lt {base : Nat} {w : World} {v : Value} {l : List Nat} (h : OwnN base w v l) : ∀ k, v.ownBlock = some k → base ≤ k ∧ k < w.heap.size := World.ownsRow.lt h
theorem OwnN.form {base : Nat} {w : World} {v : Value} {l : List Nat} (h : OwnN base w v l) : ∃ p c, v = .slice p l.length c := by
  obtain ⟨h1, h2⟩ := h
  rcases h2 with ⟨h2, h3⟩ | ⟨g, cap, cur, hv, _⟩
  · exact ⟨none, 0, by rw [h2, h3]⟩
  · exact ⟨_, cap, hv⟩
theorem OwnN.of_block {base : Nat} {w w' : World} {v : Value} {l : List Nat} (h : OwnN base w v l) (hb : ∀ k, v.ownBlock = some k → w'.heap[k]? = w.heap[k]?) : OwnN base w' v l := by
  obtain ⟨h1, h2⟩ := h
  refine ⟨h1, ?_⟩
  rcases h2 with h2 | ⟨g, cap, cur, hv, hg, hh, r⟩
  · exact .inl h2
  · exact .inr ⟨g, cap, cur, hv, hg, (hb g (by rw [hv]; rfl)).trans hh, r⟩
theorem OwnN.after {base : Nat} {w w' : World} {v : Value} {l : List Nat} (h : OwnN base w v l) (hb : Below w.heap.size w w') : OwnN base w' v l := h.of_block fun k e => hb.block k (h.lt k e).2
theorem OwnN.base {b b' : Nat} {w : World} {v : Value} {l : List Nat} (h : OwnN b w v l) (hb : b' ≤ b) : OwnN b' w v l := by
  obtain ⟨h1, h2⟩ := h
  refine ⟨h1, ?_⟩
  rcases h2 with h2 | ⟨g, cap, cur, hv, hg, r⟩
  · exact .inl h2
  · exact .inr ⟨g, cap, cur, hv, by omega, r⟩
def TextsIn (A : Nat → Prop) (w : World) (v : Value) (xs : List ByteArray) : Prop :=
  ∃ p c, v = .slice p xs.length c ∧ (xs = [] ∨ ∃ bk o, p = some ⟨bk, o, none⟩ ∧ A bk ∧ ∀ (j : Nat) x, xs[j]? = some x → w.cell? ⟨bk, o + j, none⟩ = some (.string x))
def PtrsIn (A : Nat → Prop) (w : World) (v : Value) (xs : List Nat) : Prop :=
  ∃ p c, v = .slice p xs.length c ∧ (xs = [] ∨ ∃ bk o, p = some ⟨bk, o, none⟩ ∧ A bk ∧ ∀ (j : Nat) x, xs[j]? = some x → w.cell? ⟨bk, o + j, none⟩ = some (ptrN x))
theorem TextsIn.kept {A A' : Nat → Prop} {w w' : World} {v : Value} {xs : List ByteArray} (h : TextsIn A w v xs) (hb : ∀ g, A g → w'.heap[g]? = w.heap[g]?) (hA : ∀ g, A g → A' g) : TextsIn A' w' v xs := by
  obtain ⟨p, c, hv, h⟩ := h
  refine ⟨p, c, hv, ?_⟩
  rcases h with h | ⟨bk, o, hp, hk, h⟩
  · exact .inl h
  · exact .inr ⟨bk, o, hp, hA bk hk, fun j x hx => (World.cell?_of_block (a := ⟨bk, o + j, none⟩) (hb bk hk)).trans (h j x hx)⟩
theorem PtrsIn.kept {A A' : Nat → Prop} {w w' : World} {v : Value} {xs : List Nat} (h : PtrsIn A w v xs) (hb : ∀ g, A g → w'.heap[g]? = w.heap[g]?) (hA : ∀ g, A g → A' g) : PtrsIn A' w' v xs := by
  obtain ⟨p, c, hv, h⟩ := h
  refine ⟨p, c, hv, ?_⟩
  rcases h with h | ⟨bk, o, hp, hk, h⟩
  · exact .inl h
  · exact .inr ⟨bk, o, hp, hA bk hk, fun j x hx => (World.cell?_of_block (a := ⟨bk, o + j, none⟩) (hb bk hk)).trans (h j x hx)⟩
theorem OwnS.textsIn {base : Nat} {w : World} {v : Value} {l : List ByteArray} (h : OwnS base w v l) {A : Nat → Prop} (hA : ∀ g, v.ownBlock = some g → A g) : TextsIn A w v l := by
  obtain ⟨p, c, hv, _, h2⟩ := h.strs
  subst hv
  refine ⟨p, c, rfl, ?_⟩
  rcases h2 with h2 | ⟨bk, o, rfl, _, h3⟩
  · exact .inl h2
  · exact .inr ⟨bk, o, rfl, hA bk rfl, h3⟩
theorem OwnN.ptrsIn {base : Nat} {w : World} {v : Value} {l : List Nat} (h : OwnN base w v l) {A : Nat → Prop} (hA : ∀ g, v.ownBlock = some g → A g) : PtrsIn A w v l := by
  have hc := fun g (hg : v.ownBlock = some g) => World.ownsRow.cells h hg
  obtain ⟨h1, h2⟩ := h
  rcases h2 with ⟨rfl, h3⟩ | ⟨g, cap, cur, rfl, _⟩
  · exact ⟨none, 0, by rw [h3], .inl (List.eq_nil_of_length_eq_zero h3)⟩
  · refine ⟨_, cap, rfl, .inr ⟨g, 0, rfl, hA g rfl, fun j x hx => ?_⟩⟩
    have := hc g rfl j (ptrN x) (by rw [List.getElem?_map, hx]; rfl)
    rw [addr_add] at this
    rw [Nat.zero_add]
    exact this
def NodeAt : Nat → (Nat → Prop) → World → List PairD → Nat → Nat → Prop
  | 0, _, _, _, _, _ => False
  | f + 1, A, w, ps, d, g => ∃ (u vl vn : Value) (ptrs : List Nat), A g ∧
      HasCells w g [.bool (nodeP keccakL (f + 1) ps d).isList, .string ⟨(nodeP keccakL (f + 1) ps d).text.toArray⟩, u, .string ⟨(bytesP keccakL (f + 1) ps d).toArray⟩, vl, vn] 49 ∧
      ReadsIn w A u (nodeP keccakL (f + 1) ps d).list ∧ TextsIn A w vl ((kidsP ps d).map fun k => (⟨k.1.toArray⟩ : ByteArray)) ∧ PtrsIn A w vn ptrs ∧ ptrs.length = (kidsP ps d).length ∧
      ∀ (j : Nat) k, (kidsP ps d)[j]? = some k → ∃ gk, ptrs[j]? = some gk ∧ NodeAt f A w k.2.1 k.2.2 gk
theorem NodeAt.kept {w w' : World} {A A' : Nat → Prop} (hb : ∀ g, A g → w'.heap[g]? = w.heap[g]?) (hA : ∀ g, A g → A' g) : ∀ {f : Nat} {ps : List PairD} {d g : Nat}, NodeAt f A w ps d g → NodeAt f A' w' ps d g
  | 0, _, _, _, h => h.elim
  | f + 1, ps, d, g, h => by
    obtain ⟨u, vl, vn, ptrs, h0, h1, h2, h3, h4, h5, h6⟩ := h
    refine ⟨u, vl, vn, ptrs, hA g h0, h1.kept (hb g h0), ReadsIn.kept h2 (fun g u o hg hc => (World.cell?_of_block (a := ⟨g, o, none⟩) (hb g hg)).trans hc) hA, h3.kept hb hA, h4.kept hb hA, h5, fun j k hk => ?_⟩
    obtain ⟨gk, h7, h8⟩ := h6 j k hk
    exact ⟨gk, h7, NodeAt.kept hb hA h8⟩
theorem step_appendN {ops : Array Oper} {o : Oper} {a : Act} {w : World} {K : Act → World → Prop} {Q : Exit → Act → World → Prop} {E : Prop} (hw : Region.wanted o (yielded ops a.tmps) = true) (s x : Operand) (t : TypeId)
    (ho : o.op = .call { callee := .builtin .append, args := #[s, x], argTypes := #[t, t] }) (ht : Tryz.prog.underlying t = some (.slice 41))
    (base : Nat) (v : Value) (l : List Nat) (hs : a.eval s = v) (hown : OwnN base w v l) (ad : Addr) (c : Nat) (q : Nat) (hx : a.eval x = .slice (some ad) 1 c)
    (hnews : w.cell? (ad.add 0) = some (ptrN q)) (h63 : l.length + 1 ≤ 1099511627776) (hbase : base ≤ w.heap.size)
    (hK : ∀ v' w', OwnN base w' v' (l ++ [q]) → w.grownBy w' v.ownBlock → (v'.ownBlock = v.ownBlock ∨ ∀ k, v'.ownBlock = some k → w.heap.size ≤ k) → K (a.put o.dst v') w') :
    if Region.wanted o (yielded ops a.tmps) = true then Oper.wp Tryz.prog o a w K Q else E := by
  rw [if_pos hw]
  obtain ⟨i0, hi0, hz0, hz1, hz2⟩ := info_parts infoPtrN
  have hn1 : ∀ (j : Nat) u, ([ptrN q] : List Value)[j]? = some u → w.cell? (ad.add j) = some u := fun j u hu => by
    match j, hu with
    | 0, hu => cases hu; exact hnews
  have hpl := append_place w base t o.type 41 i0 (.pointer none) 8 ht hi0 hz0 hz1 hz2 rfl v l.length (l.map ptrN) hown ad 1 c [ptrN q] rfl hn1 (by simp [ptrN, Value.oneCell']) (by unfold maxLen; omega) (by omega)
  obtain ⟨v', w', h1, h2, h3, _⟩ := run_append_own (P := Tryz.prog) w base t o.type 41 i0 (.pointer none) 1 8 ht hi0 hz0 hz1 hz2 rfl (by decide) v l.length (l.map ptrN) hown ad 1 c [ptrN q] rfl hn1 (by simp [ptrN, Value.oneCell']) (by unfold maxLen; omega) (by omega) hbase
  unfold Oper.wp execOp
  simp only [ho, resolve, invoke, builtin, Sem.run_bind, Sem.run_pure, Result.andThen_ok, List.map_toArray, List.map_cons, List.map_nil, hs, hx, h1]
  refine hK v' w' ?_ h3 (hpl v' w' h1)
  unfold OwnN
  rw [List.map_append, List.length_append]
  exact h2
end Go.Proofs.YthicdhnjincflaaGreatDoor

namespace Go.Proofs.YthicdhnjincflaaGreatDoor
open Go.RowKit Go.Shelf Go.Lib
attribute [local go_sem] Oper.semAt_some
structure RefAt (B : Nat) (w : World) (gx gy z : Nat) (vl vn : Value) (nc yc : List Value) (ul un : Value) (LL : List ByteArray) (PP : List Nat) (W : World) : Prop where
  below : Below B w W
  size : z < W.heap.size
  frame : ∀ g, g < w.heap.size → g ≠ gx → vl.ownBlock ≠ some g → vn.ownBlock ≠ some g → W.heap[g]? = w.heap[g]?
  x : HasCells W gx nc 49
  y : HasCells W gy yc 49
  zc : HasCells W z [.bool false, .string ⟨#[]⟩, .slice none 0 0] 46
  l : OwnS B W ul LL
  n : OwnN B W un PP
  lo : ul.ownBlock = vl.ownBlock ∨ ∀ k, ul.ownBlock = some k → w.heap.size ≤ k
  no : un.ownBlock = vn.ownBlock ∨ ∀ k, un.ownBlock = some k → w.heap.size ≤ k
  sep : ∀ k, ul.ownBlock = some k → un.ownBlock ≠ some k
  lx : ul.ownBlock ≠ some gx ∧ ul.ownBlock ≠ some gy ∧ ul.ownBlock ≠ some z
  nx : un.ownBlock ≠ some gx ∧ un.ownBlock ≠ some gy ∧ un.ownBlock ≠ some z
section
variable {B : Nat} {w : World} {gx gy z : Nat} {vl vn : Value} {nc yc : List Value} {ul un : Value} {LL : List ByteArray} {PP : List Nat} {W W' : World}
theorem RefAt.after (h : RefAt B w gx gy z vl vn nc yc ul un LL PP W) (hb : Below W.heap.size W W') (hB : B ≤ w.heap.size) (hz : w.heap.size ≤ z) : RefAt B w gx gy z vl vn nc yc ul un LL PP W' :=
  ⟨h.below.trans (hb.mono (by have := h.size; omega)), Nat.lt_of_lt_of_le h.size hb.size, fun g hg h1 h2 h3 => (hb.block g (by have := h.size; omega)).trans (h.frame g hg h1 h2 h3), h.x.after hb, h.y.after hb, h.zc.after hb, h.l.after hb, h.n.after hb, h.lo, h.no, h.sep, h.lx, h.nx⟩
theorem RefAt.growL {ul' : Value} {LL' : List ByteArray} (h : RefAt B w gx gy z vl vn nc yc ul un LL PP W) (ho : OwnS B W' ul' LL') (hg : W.grownBy W' ul.ownBlock) (hp : ul'.ownBlock = ul.ownBlock ∨ ∀ k, ul'.ownBlock = some k → W.heap.size ≤ k) (hB : B ≤ w.heap.size) (hz : w.heap.size ≤ z) :
    RefAt B w gx gy z vl vn nc yc ul' un LL' PP W' := by
  have hs := h.size
  have hgs := hg.size
  have hw : w.heap.size ≤ W.heap.size := by omega
  refine ⟨h.below.grown hg (by omega) (fun k e => (h.l.lt k e).1), by omega, fun g hgw h1 h2 h3 => ?_, h.x.kept (hg.block gx h.x.lt (fun e => h.lx.1 e.symm)), h.y.kept (hg.block gy h.y.lt (fun e => h.lx.2.1 e.symm)), h.zc.kept (hg.block z h.zc.lt (fun e => h.lx.2.2 e.symm)), ho,
    h.n.of_block (fun k e => hg.block k (h.n.lt k e).2 (fun e2 => h.sep k e2.symm e)), ?_, h.no, ?_, ?_, h.nx⟩
  · refine (hg.block g (by omega) (fun e => ?_)).trans (h.frame g hgw h1 h2 h3)
    rcases h.lo with h4 | h4
    · exact h2 (h4 ▸ e.symm)
    · have := h4 g e.symm; omega
  · rcases hp with hp | hp
    · rw [hp]; exact h.lo
    · exact .inr fun k e => by have := hp k e; omega
  · intro k e e2
    rcases hp with hp | hp
    · exact h.sep k (hp ▸ e) e2
    · have := hp k e; have := (h.n.lt k e2).2; omega
  · rcases hp with hp | hp
    · rw [hp]; exact h.lx
    · have q : ∀ k, k < W.heap.size → ul'.ownBlock ≠ some k := fun k hk e => by have := hp k e; omega
      exact ⟨q gx h.x.lt, q gy h.y.lt, q z h.zc.lt⟩
theorem RefAt.growN {un' : Value} {PP' : List Nat} (h : RefAt B w gx gy z vl vn nc yc ul un LL PP W) (ho : OwnN B W' un' PP') (hg : W.grownBy W' un.ownBlock) (hp : un'.ownBlock = un.ownBlock ∨ ∀ k, un'.ownBlock = some k → W.heap.size ≤ k) (hB : B ≤ w.heap.size) (hz : w.heap.size ≤ z) :
    RefAt B w gx gy z vl vn nc yc ul un' LL PP' W' := by
  have hs := h.size
  have hgs := hg.size
  have hw : w.heap.size ≤ W.heap.size := by omega
  refine ⟨h.below.grown hg (by omega) (fun k e => (h.n.lt k e).1), by omega, fun g hgw h1 h2 h3 => ?_, h.x.kept (hg.block gx h.x.lt (fun e => h.nx.1 e.symm)), h.y.kept (hg.block gy h.y.lt (fun e => h.nx.2.1 e.symm)), h.zc.kept (hg.block z h.zc.lt (fun e => h.nx.2.2 e.symm)),
    h.l.of_block (fun k e => hg.block k (h.l.lt k e).2 (fun e2 => h.sep k e e2.symm)), ho, h.lo, ?_, ?_, h.lx, ?_⟩
  · refine (hg.block g (by omega) (fun e => ?_)).trans (h.frame g hgw h1 h2 h3)
    rcases h.no with h4 | h4
    · exact h3 (h4 ▸ e.symm)
    · have := h4 g e.symm; omega
  · rcases hp with hp | hp
    · rw [hp]; exact h.no
    · exact .inr fun k e => by have := hp k e; omega
  · intro k e e2
    rcases hp with hp | hp
    · exact h.sep k e (hp ▸ e2)
    · have := hp k e2; have := (h.l.lt k e).2; omega
  · rcases hp with hp | hp
    · rw [hp]; exact h.nx
    · have q : ∀ k, k < W.heap.size → un'.ownBlock ≠ some k := fun k hk e => by have := hp k e; omega
      exact ⟨q gx h.x.lt, q gy h.y.lt, q z h.zc.lt⟩
theorem RefAt.setX (h : RefAt B w gx gy z vl vn nc yc ul un LL PP W) (hB : B ≤ gx) (hxy : gx ≠ gy) (hxz : gx ≠ z) (j : Nat) (v : Value) : RefAt B w gx gy z vl vn (nc.set j v) yc ul un LL PP (W.setCell ⟨gx, j, none⟩ v) :=
  ⟨h.below.setCell (p := ⟨gx, j, none⟩) hB v, by simpa using h.size, fun g hg h1 h2 h3 => (Below.heap_setCell W ⟨gx, j, none⟩ v g h1).trans (h.frame g hg h1 h2 h3), h.x.set j v, h.y.setOther (Ne.symm hxy) v, h.zc.setOther (Ne.symm hxz) v,
    h.l.of_block (fun k e => Below.heap_setCell W ⟨gx, j, none⟩ v k (fun e2 => h.lx.1 (e.trans (congrArg some e2)))), h.n.of_block (fun k e => Below.heap_setCell W ⟨gx, j, none⟩ v k (fun e2 => h.nx.1 (e.trans (congrArg some e2)))), h.lo, h.no, h.sep, h.lx, h.nx⟩
theorem RefAt.drew (h : RefAt B w gx gy z vl vn nc yc ul un LL PP W) : RefAt B w gx gy z vl vn nc yc ul un LL PP W.drew :=
  ⟨h.below.drew, h.size, h.frame, h.x, h.y, h.zc, h.l, h.n, h.lo, h.no, h.sep, h.lx, h.nx⟩
theorem RefAt.fin (h : RefAt B w gx gy z vl vn nc yc ul un LL PP W) (hxz : gx ≠ z) (hyz : gy ≠ z) (hB : B ≤ w.heap.size) (hz : w.heap.size ≤ z) (a b c : Value) (hW : W' = ((W.setCell ⟨z, 0, none⟩ a).setCell ⟨z, 1, none⟩ b).setCell ⟨z, 2, none⟩ c) :
    HasCells W' gx nc 49 ∧ HasCells W' gy yc 49 ∧ OwnS B W' ul LL ∧ OwnN B W' un PP ∧ Below B w W' ∧ w.heap.size ≤ W'.heap.size ∧ (∀ g, g < w.heap.size → g ≠ gx → vl.ownBlock ≠ some g → vn.ownBlock ≠ some g → W'.heap[g]? = w.heap[g]?) ∧
      (ul.ownBlock = vl.ownBlock ∨ ∀ k, ul.ownBlock = some k → w.heap.size ≤ k) ∧ (un.ownBlock = vn.ownBlock ∨ ∀ k, un.ownBlock = some k → w.heap.size ≤ k) ∧ (∀ k, ul.ownBlock = some k → un.ownBlock ≠ some k) ∧ ul.ownBlock ≠ some gx ∧ un.ownBlock ≠ some gx := by
  subst hW
  have q : ∀ k, k ≠ z → (((W.setCell ⟨z, 0, none⟩ a).setCell ⟨z, 1, none⟩ b).setCell ⟨z, 2, none⟩ c).heap[k]? = W.heap[k]? := fun k hk =>
    (Below.heap_setCell _ ⟨z, 2, none⟩ c k hk).trans ((Below.heap_setCell _ ⟨z, 1, none⟩ b k hk).trans (Below.heap_setCell _ ⟨z, 0, none⟩ a k hk))
  have hs := h.size
  refine ⟨h.x.kept (q gx hxz), h.y.kept (q gy hyz), h.l.of_block (fun k e => q k (fun e2 => h.lx.2.2 (e.trans (congrArg some e2)))), h.n.of_block (fun k e => q k (fun e2 => h.nx.2.2 (e.trans (congrArg some e2)))),
    ((h.below.setCell (p := ⟨z, 0, none⟩) (by show B ≤ z; omega) a).setCell (p := ⟨z, 1, none⟩) (by show B ≤ z; omega) b).setCell (p := ⟨z, 2, none⟩) (by show B ≤ z; omega) c, by simp; omega, fun g hg h1 h2 h3 => (q g (by omega)).trans (h.frame g hg h1 h2 h3), h.lo, h.no, h.sep, h.lx.1, h.nx.1⟩
end
def refV (yb : Bool) (yt : ByteArray) (yu : Value) (by_ : List UInt8) : Value := if by_.length < 32 then .agg #[.bool yb, .string yt, yu] else .agg #[.bool false, .string ⟨(keccakL by_).toArray⟩, .slice none 0 0]
set_option maxRecDepth 100000 in
set_option maxHeartbeats 12800000 in
theorem refer_any (B gx gy : Nat) (lead : List UInt8) (x0 x1 x2 x3 vl vn yl yn yu : Value) (yb : Bool) (yt : ByteArray) (yby : List UInt8) (leads : List ByteArray) (ptrs : List Nat) (w : World)
    (hx : HasCells w gx [x0, x1, x2, x3, vl, vn] 49) (hy : HasCells w gy [.bool yb, .string yt, yu, .string ⟨yby.toArray⟩, yl, yn] 49) (hl : OwnS B w vl leads) (hn : OwnN B w vn ptrs)
    (hxy : gx ≠ gy) (hsep : ∀ k, vl.ownBlock = some k → vn.ownBlock ≠ some k) (hlx : vl.ownBlock ≠ some gx ∧ vl.ownBlock ≠ some gy) (hnx : vn.ownBlock ≠ some gx ∧ vn.ownBlock ≠ some gy)
    (hB : B ≤ gx) (hL : leads.length ≤ 1000) (hP : ptrs.length ≤ 1000) (hby : yby.length ≤ 1000000) (hK : ∀ W, Below B w W → KecT W) (hyu : ∃ p n c, yu = .slice p n c) :
    Calls Tryz.prog 58 #[.pointer (some ⟨gx, 0, none⟩), .string ⟨lead.toArray⟩, .pointer (some ⟨gy, 0, none⟩)] w fun e w' => e = .returned (refV yb yt yu yby) ∧ ∃ ul un, HasCells w' gx [x0, x1, x2, x3, ul, un] 49 ∧ HasCells w' gy [.bool yb, .string yt, yu, .string ⟨yby.toArray⟩, yl, yn] 49 ∧
      OwnS B w' ul (leads ++ [⟨lead.toArray⟩]) ∧ OwnN B w' un (ptrs ++ [gy]) ∧ Below B w w' ∧ w.heap.size ≤ w'.heap.size ∧ (∀ g, g < w.heap.size → g ≠ gx → vl.ownBlock ≠ some g → vn.ownBlock ≠ some g → w'.heap[g]? = w.heap[g]?) ∧
      (ul.ownBlock = vl.ownBlock ∨ ∀ k, ul.ownBlock = some k → w.heap.size ≤ k) ∧ (un.ownBlock = vn.ownBlock ∨ ∀ k, un.ownBlock = some k → w.heap.size ≤ k) ∧ (∀ k, ul.ownBlock = some k → un.ownBlock ≠ some k) ∧ ul.ownBlock ≠ some gx ∧ un.ownBlock ≠ some gx := by
  have hxlt := hx.lt
  have hylt := hy.lt
  have hBw : B ≤ w.heap.size := by omega
  have hb0 := laid1 w (.cells #[.bool false, .string ⟨#[]⟩, .slice none 0 0] 46)
  have h0 : RefAt B w gx gy w.heap.size vl vn [x0, x1, x2, x3, vl, vn] [.bool yb, .string yt, yu, .string ⟨yby.toArray⟩, yl, yn] vl vn leads ptrs (w.alloc (.cells #[.bool false, .string ⟨#[]⟩, .slice none 0 0] 46)) :=
    ⟨hb0.mono hBw, by simp, fun g hg _ _ _ => hb0.block g hg, hx.after hb0, hy.after hb0, HasCells.new w [.bool false, .string ⟨#[]⟩, .slice none 0 0] 46, hl.after hb0, hn.after hb0, .inl rfl, .inl rfl, hsep,
      ⟨hlx.1, hlx.2, fun e => by have := (hl.lt _ e).2; omega⟩, ⟨hnx.1, hnx.2, fun e => by have := (hn.lt _ e).2; omega⟩⟩
  have H0 := Lib.hid h0
  have HK := Lib.hid hK
  have HXY := Lib.hid hxy
  have HBX := Lib.hid hB
  have HBW := Lib.hid hBw
  have HYZ := Lib.hid (show gy ≠ w.heap.size by omega)
  have HXZ := Lib.hid (show gx ≠ w.heap.size by omega)
  have HLN := Lib.hid hL
  have HPN := Lib.hid hP
  have HBY := Lib.hid hby
  have HVL := Lib.hid (fun k (e : vl.ownBlock = some k) => (hl.lt k e).2)
  have hsp : (⟨yby.toArray⟩ : ByteArray).size = yby.length := rfl
  obtain ⟨yz, hyz⟩ : ∃ n, yby.length = n := ⟨_, rfl⟩
  have HYL := Lib.hid hyz
  rw [hyz] at hsp
  obtain ⟨LL, hLL⟩ : ∃ L, leads ++ [(⟨lead.toArray⟩ : ByteArray)] = L := ⟨_, rfl⟩
  obtain ⟨nl, hnl⟩ : ∃ n, LL.length = n := ⟨_, rfl⟩
  obtain ⟨PP, hPP⟩ : ∃ L, ptrs ++ [gy] = L := ⟨_, rfl⟩
  obtain ⟨np, hnp⟩ : ∃ n, PP.length = n := ⟨_, rfl⟩
  rw [hLL, hPP]
  have HLL := Lib.hid hLL
  have HPP := Lib.hid hPP
  have HNL := Lib.hid hnl
  have HNP := Lib.hid hnp
  obtain ⟨yp, yln, yc, rfl⟩ := hyu
  clear hx hy hl hn hxy hsep hlx hnx hB hL hP hby hK hb0 h0 hxlt hylt hBw hLL hPP hnl hnp hyz
  go_enter Tryz.func58, Tryz.ntmps58
  go_wp2_with fail
  obtain ⟨w0, hw0⟩ : ∃ W, w.alloc (.cells #[.bool false, .string ⟨#[]⟩, .slice none 0 0] 46) = W := ⟨_, rfl⟩
  rw [hw0] at H0 ⊢
  have hsz0 : w.heap.size < w0.heap.size := H0.out.size
  clear hw0
  refine wp_region_L (fun Ls w' => Ls.getD 18 true = false → w'.cell? ⟨gx, 4, none⟩ = some vl ∧ w'.cell? ⟨gx, 5, none⟩ = some vn) (by kernel_rfl) ?_
  obtain ⟨w1, hw1⟩ : ∃ W, w0.drew = W := ⟨_, rfl⟩
  have H1 : Hid (RefAt B w gx gy w.heap.size vl vn [x0, x1, x2, x3, vl, vn] [.bool yb, .string yt, .slice yp yln yc, .string ⟨yby.toArray⟩, yl, yn] vl vn leads ptrs w1) := Lib.hid (by rw [← hw1]; exact H0.out.drew)
  rw [hw1]
  clear hw1 H0
  refine wpAnyL_take (i := 0) (v := ?_) (fuel := 21) rfl (by kernel_rfl) (by kernel_rfl) (by kernel_rfl) (by kernel_rfl) (fun _ _ _ h => h) (fun Ls w' => by rw [getD_set_ne true (by omega)]) (fun _ => ⟨(H1.out.x.cell (j := 4) rfl), (H1.out.x.cell (j := 5) rfl)⟩) (.inl ⟨by rfl, ?_⟩) ?_
  rotate_left 1
  · rintro w' ⟨Ls, hcl, h0, hS⟩
    clear hS hcl h0
    go_simp <;> with_reducible rfl
  try simp only [Act.put, zq1, zq2, zq4, zq5, zq6]
  refine wpAnyL_take (i := 1) (v := ?_) (fuel := 20) rfl (by kernel_rfl) (by kernel_rfl) (by kernel_rfl) (by kernel_rfl) (fun _ _ _ h => h) (fun Ls w' => by rw [getD_set_ne true (by omega)]) (fun _ => ⟨(H1.out.x.cell (j := 4) rfl), (H1.out.x.cell (j := 5) rfl)⟩) (.inl ⟨by rfl, ?_⟩) ?_
  rotate_left 1
  · rintro w' ⟨Ls, hcl, h0, hS⟩
    clear hS hcl h0
    go_simp <;> with_reducible rfl
  try simp only [Act.put, zq1, zq2, zq3, zq4, zq5, zq6]
  refine wpAnyL_take (i := 2) (v := ?_) (fuel := 19) rfl (by kernel_rfl) (by kernel_rfl) (by kernel_rfl) (by kernel_rfl) (fun _ _ _ h => h) (fun Ls w' => by rw [getD_set_ne true (by omega)]) (fun _ => ⟨(H1.out.x.cell (j := 4) rfl), (H1.out.x.cell (j := 5) rfl)⟩) (.inl ⟨by rfl, ?_⟩) ?_
  rotate_left 1
  · rintro w' ⟨Ls, hcl, h0, hS⟩
    clear hS hcl h0
    go_simp <;> with_reducible rfl
  try simp only [Act.put, zq1, zq2, zq3, zq4, zq5, zq6]
  refine wpAnyL_take (i := 3) (v := ?_) (fuel := 18) rfl (by kernel_rfl) (by kernel_rfl) (by kernel_rfl) (by kernel_rfl) (fun _ _ _ h => h) (fun Ls w' => by rw [getD_set_ne true (by omega)]) (fun _ => ⟨(H1.out.x.cell (j := 4) rfl), (H1.out.x.cell (j := 5) rfl)⟩) (.inl ⟨by rfl, ?_⟩) ?_
  rotate_left 1
  · rintro w' ⟨Ls, hcl, h0, hS⟩
    clear hS hcl h0
    go_simp <;> with_reducible rfl
  try simp only [Act.put, zq1, zq2, zq3, zq4, zq5, zq6]
  refine wpAnyL_take (i := 4) (v := ?_) (fuel := 17) rfl (by kernel_rfl) (by kernel_rfl) (by kernel_rfl) (by kernel_rfl) (fun _ _ _ h => h) (fun Ls w' => by rw [getD_set_ne true (by omega)]) (fun _ => ⟨(H1.out.x.cell (j := 4) rfl), (H1.out.x.cell (j := 5) rfl)⟩) (.inl ⟨by rfl, ?_⟩) ?_
  rotate_left 1
  · rintro w' ⟨Ls, hcl, h0, hS⟩
    clear hS hcl h0
    go_simp <;> with_reducible rfl
  try simp only [Act.put, zq1, zq2, zq3, zq4, zq5, zq6]
  refine wpAnyL_take (i := 5) (v := ?_) (fuel := 16) rfl (by kernel_rfl) (by kernel_rfl) (by kernel_rfl) (by kernel_rfl) (fun _ _ _ h => h) (fun Ls w' => by rw [getD_set_ne true (by omega)]) (fun _ => ⟨(H1.out.x.cell (j := 4) rfl), (H1.out.x.cell (j := 5) rfl)⟩) (.inl ⟨by rfl, ?_⟩) ?_
  rotate_left 1
  · rintro w' ⟨Ls, hcl, h0, hS⟩
    have hSw := hS (closedB_before hcl (i := 5) (by kernel_rfl) h0)
    obtain ⟨z0, z1⟩ := hSw
    clear hS hcl h0
    go_simp <;> with_reducible rfl
  try simp only [Act.put, zq1, zq2, zq3, zq4, zq5, zq6]
  refine wpAnyL_take (i := 6) (v := ?_) (fuel := 15) rfl (by kernel_rfl) (by kernel_rfl) (by kernel_rfl) (by kernel_rfl) (fun _ _ _ h => h) (fun Ls w' => by rw [getD_set_ne true (by omega)]) (fun _ => ⟨(H1.out.x.cell (j := 4) rfl), (H1.out.x.cell (j := 5) rfl)⟩) (.inl ⟨by rfl, ?_⟩) ?_
  rotate_left 1
  · rintro w' ⟨Ls, hcl, h0, hS⟩
    clear hS hcl h0
    go_simp <;> with_reducible rfl
  try simp only [Act.put, zq1, zq2, zq3, zq4, zq5, zq6]
  refine wpAnyL_take (i := 9) (v := ?_) (fuel := 14) rfl (by kernel_rfl) (by kernel_rfl) (by kernel_rfl) (by kernel_rfl) (fun _ _ _ h => h) (fun Ls w' => by rw [getD_set_ne true (by omega)]) (fun _ => ⟨(H1.out.x.cell (j := 4) rfl), (H1.out.x.cell (j := 5) rfl)⟩) (.inl ⟨by rfl, ?_⟩) ?_
  rotate_left 1
  · rintro w' ⟨Ls, hcl, h0, hS⟩
    clear hS hcl h0
    go_simp <;> with_reducible rfl
  try simp only [Act.put, zq1, zq2, zq3, zq4, zq5, zq6]
  refine wpAnyL_take (i := 10) (v := ?_) (fuel := 13) rfl (by kernel_rfl) (by kernel_rfl) (by kernel_rfl) (by kernel_rfl) (fun _ _ _ h => h) (fun Ls w' => by rw [getD_set_ne true (by omega)]) (fun _ => ⟨(H1.out.x.cell (j := 4) rfl), (H1.out.x.cell (j := 5) rfl)⟩) (.inl ⟨by rfl, ?_⟩) ?_
  rotate_left 1
  · rintro w' ⟨Ls, hcl, h0, hS⟩
    clear hS hcl h0
    go_simp <;> with_reducible rfl
  try simp only [Act.put, zq1, zq2, zq3, zq4, zq5, zq6]
  refine wpAnyL_take (i := 11) (v := ?_) (fuel := 12) rfl (by kernel_rfl) (by kernel_rfl) (by kernel_rfl) (by kernel_rfl) (fun _ _ _ h => h) (fun Ls w' => by rw [getD_set_ne true (by omega)]) (fun _ => ⟨(H1.out.x.cell (j := 4) rfl), (H1.out.x.cell (j := 5) rfl)⟩) (.inl ⟨by rfl, ?_⟩) ?_
  rotate_left 1
  · rintro w' ⟨Ls, hcl, h0, hS⟩
    clear hS hcl h0
    go_simp <;> with_reducible rfl
  try simp only [Act.put, zq1, zq2, zq3, zq4, zq5, zq6]
  refine wpAnyL_take (i := 12) (v := ?_) (fuel := 11) rfl (by kernel_rfl) (by kernel_rfl) (by kernel_rfl) (by kernel_rfl) (fun _ _ _ h => h) (fun Ls w' => by rw [getD_set_ne true (by omega)]) (fun _ => ⟨(H1.out.x.cell (j := 4) rfl), (H1.out.x.cell (j := 5) rfl)⟩) (.inl ⟨by rfl, ?_⟩) ?_
  rotate_left 1
  · rintro w' ⟨Ls, hcl, h0, hS⟩
    have hSw := hS (closedB_before hcl (i := 12) (by kernel_rfl) h0)
    obtain ⟨z0, z1⟩ := hSw
    clear hS hcl h0
    go_simp <;> with_reducible rfl
  try simp only [Act.put, zq1, zq2, zq3, zq4, zq5, zq6]
  refine wpAnyL_take (i := 13) (v := ?_) (fuel := 10) rfl (by kernel_rfl) (by kernel_rfl) (by kernel_rfl) (by kernel_rfl) (fun _ _ _ h => h) (fun Ls w' => by rw [getD_set_ne true (by omega)]) (fun _ => ⟨(H1.out.x.cell (j := 4) rfl), (H1.out.x.cell (j := 5) rfl)⟩) (.inl ⟨by rfl, ?_⟩) ?_
  rotate_left 1
  · rintro w' ⟨Ls, hcl, h0, hS⟩
    clear hS hcl h0
    go_simp <;> with_reducible rfl
  try simp only [Act.put, zq1, zq2, zq3, zq4, zq5, zq6]
  refine wpAnyL_two (i := 7) (j := 14) (fuel := 9) (by kernel_rfl) rfl rfl (fun K hK => ?_) (fun K hK => ?_)
  · go_simp
    obtain ⟨w2, hal⟩ : ∃ W, w1.alloc (.cells #[.string ⟨lead.toArray⟩] 9) = W := ⟨_, rfl⟩
    have hlb : Below w1.heap.size w1 w2 := by rw [← hal]; exact laid1 w1 _
    have hlta : w1.heap.size < w2.heap.size := by rw [← hal]; simp
    have hza : w.heap.size < w1.heap.size := H1.out.size
    have H2 := Lib.hid (H1.out.after hlb HBW.out (Nat.le_refl _))
    have hnn : w2.cell? ⟨w1.heap.size, 0, none⟩ = some (.string ⟨lead.toArray⟩) := by rw [← hal]; exact (HasCells.new w1 [.string ⟨lead.toArray⟩] 9).cell (j := 0) rfl
    have HCa2 := Lib.hid hnn
    rw [hal]
    clear hal hnn hlb H1
    refine hK.out _ _ (fun h => ⟨(H2.out.x.cell (j := 4) rfl), (H2.out.x.cell (j := 5) rfl)⟩) (fun _ => ?_)
    clear hK K
    try simp only [Act.put, zq1, zq2, zq3, zq4, zq5, zq6]
    refine wpAnyL_two (i := 8) (j := 14) (fuel := 8) (by kernel_rfl) rfl rfl (fun K hK => ?_) (fun K hK => ?_)
    · refine step_appendTs (by rfl) _ _ 29 rfl B Tryz.underlying29 infoStr _ leads rfl H2.out.l ⟨w1.heap.size, 0, none⟩ 1 1 [⟨lead.toArray⟩] rfl rfl ?f0 ?f1 ?f2 ?_
      case f0 => exact fun j u hu => one_at hu (by rintro rfl rfl; exact HCa2.out)
      case f1 => have := HLN.out; omega
      case f2 => have := H2.out.below.size; have := HBW.out; omega
      intro ul w3 hm hg hpl
      rw [HLL.out] at hm
      obtain ⟨pl, cl, hul⟩ := hm.form
      rw [HNL.out] at hul
      subst hul
      have H3 := Lib.hid (H2.out.growL hm hg hpl HBW.out (Nat.le_refl _))
      clear hm hg hpl H2 HCa2
      refine hK.out _ _ (fun h => ⟨(H3.out.x.cell (j := 4) rfl), (H3.out.x.cell (j := 5) rfl)⟩) (fun _ => ?_)
      clear hK K
      try simp only [Act.put, zq1, zq2, zq3, zq4, zq5, zq6]
      refine wpAnyL_one (i := 14) (fuel := 7) (by kernel_rfl) rfl (fun K hK => ?_)
      go_simp
      obtain ⟨w4, hal⟩ : ∃ W, w3.alloc (.cells #[.pointer (some ⟨gy, 0, none⟩)] 41) = W := ⟨_, rfl⟩
      have hlb : Below w3.heap.size w3 w4 := by rw [← hal]; exact laid1 w3 _
      have hltb : w3.heap.size < w4.heap.size := by rw [← hal]; simp
      have hzb : w.heap.size < w3.heap.size := H3.out.size
      have H4 := Lib.hid (H3.out.after hlb HBW.out (Nat.le_refl _))
      have hnn : w4.cell? ⟨w3.heap.size, 0, none⟩ = some (.pointer (some ⟨gy, 0, none⟩)) := by rw [← hal]; exact (HasCells.new w3 [.pointer (some ⟨gy, 0, none⟩)] 41).cell (j := 0) rfl
      have HCb4 := Lib.hid hnn
      rw [hal]
      clear hal hnn hlb H3
      refine hK.out _ _ (fun h => ⟨(H4.out.x.cell (j := 4) rfl), (H4.out.x.cell (j := 5) rfl)⟩) (fun _ => ?_)
      clear hK K
      try simp only [Act.put, zq1, zq2, zq3, zq4, zq5, zq6]
      refine wpAnyL_one (i := 15) (fuel := 6) (by kernel_rfl) rfl (fun K hK => ?_)
      refine step_appendN (by rfl) _ _ 47 rfl Tryz.underlying47 B _ ptrs rfl H4.out.n ⟨w3.heap.size, 0, none⟩ 1 gy rfl ?f0 ?f1 ?f2 ?_
      case f0 => exact HCb4.out
      case f1 => have := HPN.out; omega
      case f2 => have := H4.out.below.size; have := HBW.out; omega
      intro un w5 hm hg hpl
      rw [HPP.out] at hm
      obtain ⟨pn, cn, hun⟩ := hm.form
      rw [HNP.out] at hun
      subst hun
      have H5 := Lib.hid (H4.out.growN hm hg hpl HBW.out (Nat.le_refl _))
      clear hm hg hpl H4 HCb4
      refine hK.out _ _ (fun h => ⟨(H5.out.x.cell (j := 4) rfl), (H5.out.x.cell (j := 5) rfl)⟩) (fun _ => ?_)
      clear hK K
      try simp only [Act.put, zq1, zq2, zq3, zq4, zq5, zq6]
      refine wpAnyL_take (i := 16) (v := ?_) (fuel := 5) rfl (by kernel_rfl) (by kernel_rfl) (by kernel_rfl) (by kernel_rfl) (fun _ _ _ h => h) (fun Ls w' => by rw [getD_set_ne true (by omega)]) (fun _ => ⟨(H5.out.x.cell (j := 4) rfl), (H5.out.x.cell (j := 5) rfl)⟩) (.inl ⟨by rfl, ?_⟩) ?_
      rotate_left 1
      · rintro w' ⟨Ls, hcl, h0, hS⟩
        clear hS hcl h0
        go_simp <;> with_reducible rfl
      try simp only [Act.put, zq1, zq2, zq3, zq4, zq5, zq6]
      refine wpAnyL_take (i := 17) (v := ?_) (fuel := 4) rfl (by kernel_rfl) (by kernel_rfl) (by kernel_rfl) (by kernel_rfl) (fun _ _ _ h => h) (fun Ls w' => by rw [getD_set_ne true (by omega)]) (fun _ => ⟨(H5.out.x.cell (j := 4) rfl), (H5.out.x.cell (j := 5) rfl)⟩) (.inl ⟨by rfl, ?_⟩) ?_
      rotate_left 1
      · rintro w' ⟨Ls, hcl, h0, hS⟩
        clear hS hcl h0
        go_simp <;> with_reducible rfl
      try simp only [Act.put, zq1, zq2, zq3, zq4, zq5, zq6]
      refine wpAnyL_one (i := 18) (fuel := 3) (by kernel_rfl) rfl (fun K hK => ?_)
      have f4 := H5.out.x.frozen 4
      have f5 := H5.out.x.frozen 5
      have c4 := H5.out.x.cell (j := 4) rfl
      have c5 := H5.out.x.cell (j := 5) rfl
      go_simp
      clear f4 f5 c4 c5
      have H6 := Lib.hid (H5.out.setX HBX.out HXY.out HXZ.out 4 (.slice pl nl cl))
      obtain ⟨w6, hset⟩ : ∃ W, w5.setCell ⟨gx, 4, none⟩ (.slice pl nl cl) = W := ⟨_, rfl⟩
      rw [hset] at H6 ⊢
      clear hset H5
      refine hK.out _ _ (fun h => by cases h) (fun _ => ?_)
      clear hK K
      try simp only [Act.put, zq1, zq2, zq3, zq4, zq5, zq6]
      refine wpAnyL_take (i := 19) (v := ?_) (fuel := 2) rfl (by kernel_rfl) (by kernel_rfl) (by kernel_rfl) (by kernel_rfl) (fun _ _ _ h => h) (fun Ls w' => by rw [getD_set_ne true (by omega)]) (fun h => by cases h) (.inl ⟨by rfl, ?_⟩) ?_
      rotate_left 1
      · rintro w' ⟨Ls, hcl, h0, hS⟩
        clear hS hcl h0
        go_simp <;> with_reducible rfl
      try simp only [Act.put, zq1, zq2, zq3, zq4, zq5, zq6]
      refine wpAnyL_take (i := 20) (v := ?_) (fuel := 1) rfl (by kernel_rfl) (by kernel_rfl) (by kernel_rfl) (by kernel_rfl) (fun _ _ _ h => h) (fun Ls w' => by rw [getD_set_ne true (by omega)]) (fun h => by cases h) (.inl ⟨by rfl, ?_⟩) ?_
      rotate_left 1
      · rintro w' ⟨Ls, hcl, h0, hS⟩
        clear hS hcl h0
        go_simp <;> with_reducible rfl
      try simp only [Act.put, zq1, zq2, zq3, zq4, zq5, zq6]
      refine wpAnyL_one (i := 21) (fuel := 0) (by kernel_rfl) rfl (fun K hK => ?_)
      have f4 := H6.out.x.frozen 4
      have f5 := H6.out.x.frozen 5
      have c4 := H6.out.x.cell (j := 4) rfl
      have c5 := H6.out.x.cell (j := 5) rfl
      go_simp
      clear f4 f5 c4 c5
      have H7 := Lib.hid (H6.out.setX HBX.out HXY.out HXZ.out 5 (.slice pn np cn))
      obtain ⟨w7, hset⟩ : ∃ W, w6.setCell ⟨gx, 5, none⟩ (.slice pn np cn) = W := ⟨_, rfl⟩
      rw [hset] at H7 ⊢
      clear hset H6
      refine hK.out _ _ (fun h => by cases h) (fun _ => ?_)
      clear hK K
      try simp only [Act.put, zq1, zq2, zq3, zq4, zq5, zq6]
      refine wpAnyL_done (by kernel_rfl) ?_ 0
      have hylt : w.heap.size < w7.heap.size := H7.out.size
      have y0 := H7.out.y.cell (j := 0) rfl
      have y1 := H7.out.y.cell (j := 1) rfl
      have y2 := H7.out.y.cell (j := 2) rfl
      have y3 := H7.out.y.cell (j := 3) rfl
      have e0 := H7.out.zc.cell (j := 0) rfl
      have e1 := H7.out.zc.cell (j := 1) rfl
      have e2 := H7.out.zc.cell (j := 2) rfl
      have f0 := H7.out.zc.frozen 0
      have f1 := H7.out.zc.frozen 1
      have f2 := H7.out.zc.frozen 2
      rcases (show yz < 32 ∨ ¬ yz < 32 from by omega) with hl | hl
      · have g1 : (yz : Int) < 32 := by omega
        go_wp2_with fail
        refine bodyPost_ret (v := .agg #[.bool yb, .string yt, .slice yp yln yc]) (results_cells rfl _ _ w.heap.size [.bool yb, .string yt, .slice yp yln yc] _ (by rfl) (((H7.out.zc.set 0 (.bool yb)).set 1 (.string yt)).set 2 (.slice yp yln yc)).range Tryz.underlying46 rfl infoItemT) rfl ?_
        have hyl := HYL.out
        refine ⟨by unfold refV; rw [if_pos (by omega)], .slice pl nl cl, .slice pn np cn, H7.out.fin HXZ.out HYZ.out HBW.out (Nat.le_refl _) _ _ _ rfl⟩
      · have g1 : ¬ ((yz : Int) < 32) := by omega
        have g2 : decide ((yz : Int) < 32) = false := decide_eq_false g1
        have hal := laid1 w7 (.cells #[.string ⟨yby.toArray⟩] 9)
        have HS := Lib.hid (kecOne_l (l := yby) (k := keccakL yby) rfl w7.heap.size 0 _ ((HasCells.new w7 [.string ⟨yby.toArray⟩] 9).cell (j := 0) rfl) (by have h1 := HYL.out; have h2 := HBY.out; omega) (HK.out _ (H7.out.below.trans (hal.mono (by have := HBW.out; omega)))))
        have HAL := Lib.hid hal
        clear hal
        go_wp2_with fail
        refine HS.out.mono ?_
        rintro e v1 ⟨rfl, hb1⟩
        have HB1 := Lib.hid (HAL.out.trans (hb1.mono (by simp)))
        clear hb1
        go_wp2_with fail
        refine (rlpText_any (keccakL yby) v1).mono ?_
        rintro e v2 ⟨rfl, hb2⟩
        have HB2 := Lib.hid (HB1.out.trans (hb2.mono HB1.out.size))
        clear hb2
        have HZ := Lib.hid (H7.out.after HB2.out HBW.out (Nat.le_refl _))
        clear y0 y1 y2 y3 e0 e1 e2 f0 f1 f2
        have e0 := HZ.out.zc.cell (j := 0) rfl
        have e1 := HZ.out.zc.cell (j := 1) rfl
        have e2 := HZ.out.zc.cell (j := 2) rfl
        have f0 := HZ.out.zc.frozen 0
        have f1 := HZ.out.zc.frozen 1
        have f2 := HZ.out.zc.frozen 2
        go_wp2_with fail
        refine bodyPost_ret (v := .agg #[.bool false, .string ⟨(keccakL yby).toArray⟩, .slice none 0 0]) (results_cells rfl _ _ w.heap.size [.bool false, .string ⟨(keccakL yby).toArray⟩, .slice none 0 0] _ (by rfl) (((HZ.out.zc.set 0 (.bool false)).set 1 (.string ⟨(keccakL yby).toArray⟩)).set 2 (.slice none 0 0)).range Tryz.underlying46 rfl infoItemT) rfl ?_
        have hyl := HYL.out
        refine ⟨by unfold refV; rw [if_neg (by omega)], .slice pl nl cl, .slice pn np cn, HZ.out.fin HXZ.out HYZ.out HBW.out (Nat.le_refl _) _ _ _ rfl⟩
    · go_simp
      obtain ⟨w3, hal⟩ : ∃ W, w2.alloc (.cells #[.pointer (some ⟨gy, 0, none⟩)] 41) = W := ⟨_, rfl⟩
      have hlb : Below w2.heap.size w2 w3 := by rw [← hal]; exact laid1 w2 _
      have hltb : w2.heap.size < w3.heap.size := by rw [← hal]; simp
      have hzb : w.heap.size < w2.heap.size := H2.out.size
      have H3 := Lib.hid (H2.out.after hlb HBW.out (Nat.le_refl _))
      have hnn : w3.cell? ⟨w2.heap.size, 0, none⟩ = some (.pointer (some ⟨gy, 0, none⟩)) := by rw [← hal]; exact (HasCells.new w2 [.pointer (some ⟨gy, 0, none⟩)] 41).cell (j := 0) rfl
      have HCb3 := Lib.hid hnn
      have HCa3 := Lib.hid ((hlb.cell (p := ⟨w1.heap.size, 0, none⟩) (by omega)).trans HCa2.out)
      rw [hal]
      clear hal hnn hlb H2 HCa2
      refine hK.out _ _ (fun h => ⟨(H3.out.x.cell (j := 4) rfl), (H3.out.x.cell (j := 5) rfl)⟩) (fun _ => ?_)
      clear hK K
      try simp only [Act.put, zq1, zq2, zq3, zq4, zq5, zq6]
      refine wpAnyL_one (i := 8) (fuel := 7) (by kernel_rfl) rfl (fun K hK => ?_)
      refine step_appendTs (by rfl) _ _ 29 rfl B Tryz.underlying29 infoStr _ leads rfl H3.out.l ⟨w1.heap.size, 0, none⟩ 1 1 [⟨lead.toArray⟩] rfl rfl ?f0 ?f1 ?f2 ?_
      case f0 => exact fun j u hu => one_at hu (by rintro rfl rfl; exact HCa3.out)
      case f1 => have := HLN.out; omega
      case f2 => have := H3.out.below.size; have := HBW.out; omega
      intro ul w4 hm hg hpl
      rw [HLL.out] at hm
      obtain ⟨pl, cl, hul⟩ := hm.form
      rw [HNL.out] at hul
      subst hul
      have H4 := Lib.hid (H3.out.growL hm hg hpl HBW.out (Nat.le_refl _))
      have HCb4 := Lib.hid (hg.cell HCb3.out (fun e => by have h1 := HVL.out _ e.symm; have h2 : (⟨w2.heap.size, 0, none⟩ : Addr).block = w2.heap.size := rfl; omega))
      clear hm hg hpl H3 HCa3 HCb3
      refine hK.out _ _ (fun h => ⟨(H4.out.x.cell (j := 4) rfl), (H4.out.x.cell (j := 5) rfl)⟩) (fun _ => ?_)
      clear hK K
      try simp only [Act.put, zq1, zq2, zq3, zq4, zq5, zq6]
      refine wpAnyL_one (i := 15) (fuel := 6) (by kernel_rfl) rfl (fun K hK => ?_)
      refine step_appendN (by rfl) _ _ 47 rfl Tryz.underlying47 B _ ptrs rfl H4.out.n ⟨w2.heap.size, 0, none⟩ 1 gy rfl ?f0 ?f1 ?f2 ?_
      case f0 => exact HCb4.out
      case f1 => have := HPN.out; omega
      case f2 => have := H4.out.below.size; have := HBW.out; omega
      intro un w5 hm hg hpl
      rw [HPP.out] at hm
      obtain ⟨pn, cn, hun⟩ := hm.form
      rw [HNP.out] at hun
      subst hun
      have H5 := Lib.hid (H4.out.growN hm hg hpl HBW.out (Nat.le_refl _))
      clear hm hg hpl H4 HCb4
      refine hK.out _ _ (fun h => ⟨(H5.out.x.cell (j := 4) rfl), (H5.out.x.cell (j := 5) rfl)⟩) (fun _ => ?_)
      clear hK K
      try simp only [Act.put, zq1, zq2, zq3, zq4, zq5, zq6]
      refine wpAnyL_take (i := 16) (v := ?_) (fuel := 5) rfl (by kernel_rfl) (by kernel_rfl) (by kernel_rfl) (by kernel_rfl) (fun _ _ _ h => h) (fun Ls w' => by rw [getD_set_ne true (by omega)]) (fun _ => ⟨(H5.out.x.cell (j := 4) rfl), (H5.out.x.cell (j := 5) rfl)⟩) (.inl ⟨by rfl, ?_⟩) ?_
      rotate_left 1
      · rintro w' ⟨Ls, hcl, h0, hS⟩
        clear hS hcl h0
        go_simp <;> with_reducible rfl
      try simp only [Act.put, zq1, zq2, zq3, zq4, zq5, zq6]
      refine wpAnyL_take (i := 17) (v := ?_) (fuel := 4) rfl (by kernel_rfl) (by kernel_rfl) (by kernel_rfl) (by kernel_rfl) (fun _ _ _ h => h) (fun Ls w' => by rw [getD_set_ne true (by omega)]) (fun _ => ⟨(H5.out.x.cell (j := 4) rfl), (H5.out.x.cell (j := 5) rfl)⟩) (.inl ⟨by rfl, ?_⟩) ?_
      rotate_left 1
      · rintro w' ⟨Ls, hcl, h0, hS⟩
        clear hS hcl h0
        go_simp <;> with_reducible rfl
      try simp only [Act.put, zq1, zq2, zq3, zq4, zq5, zq6]
      refine wpAnyL_one (i := 18) (fuel := 3) (by kernel_rfl) rfl (fun K hK => ?_)
      have f4 := H5.out.x.frozen 4
      have f5 := H5.out.x.frozen 5
      have c4 := H5.out.x.cell (j := 4) rfl
      have c5 := H5.out.x.cell (j := 5) rfl
      go_simp
      clear f4 f5 c4 c5
      have H6 := Lib.hid (H5.out.setX HBX.out HXY.out HXZ.out 4 (.slice pl nl cl))
      obtain ⟨w6, hset⟩ : ∃ W, w5.setCell ⟨gx, 4, none⟩ (.slice pl nl cl) = W := ⟨_, rfl⟩
      rw [hset] at H6 ⊢
      clear hset H5
      refine hK.out _ _ (fun h => by cases h) (fun _ => ?_)
      clear hK K
      try simp only [Act.put, zq1, zq2, zq3, zq4, zq5, zq6]
      refine wpAnyL_take (i := 19) (v := ?_) (fuel := 2) rfl (by kernel_rfl) (by kernel_rfl) (by kernel_rfl) (by kernel_rfl) (fun _ _ _ h => h) (fun Ls w' => by rw [getD_set_ne true (by omega)]) (fun h => by cases h) (.inl ⟨by rfl, ?_⟩) ?_
      rotate_left 1
      · rintro w' ⟨Ls, hcl, h0, hS⟩
        clear hS hcl h0
        go_simp <;> with_reducible rfl
      try simp only [Act.put, zq1, zq2, zq3, zq4, zq5, zq6]
      refine wpAnyL_take (i := 20) (v := ?_) (fuel := 1) rfl (by kernel_rfl) (by kernel_rfl) (by kernel_rfl) (by kernel_rfl) (fun _ _ _ h => h) (fun Ls w' => by rw [getD_set_ne true (by omega)]) (fun h => by cases h) (.inl ⟨by rfl, ?_⟩) ?_
      rotate_left 1
      · rintro w' ⟨Ls, hcl, h0, hS⟩
        clear hS hcl h0
        go_simp <;> with_reducible rfl
      try simp only [Act.put, zq1, zq2, zq3, zq4, zq5, zq6]
      refine wpAnyL_one (i := 21) (fuel := 0) (by kernel_rfl) rfl (fun K hK => ?_)
      have f4 := H6.out.x.frozen 4
      have f5 := H6.out.x.frozen 5
      have c4 := H6.out.x.cell (j := 4) rfl
      have c5 := H6.out.x.cell (j := 5) rfl
      go_simp
      clear f4 f5 c4 c5
      have H7 := Lib.hid (H6.out.setX HBX.out HXY.out HXZ.out 5 (.slice pn np cn))
      obtain ⟨w7, hset⟩ : ∃ W, w6.setCell ⟨gx, 5, none⟩ (.slice pn np cn) = W := ⟨_, rfl⟩
      rw [hset] at H7 ⊢
      clear hset H6
      refine hK.out _ _ (fun h => by cases h) (fun _ => ?_)
      clear hK K
      try simp only [Act.put, zq1, zq2, zq3, zq4, zq5, zq6]
      refine wpAnyL_done (by kernel_rfl) ?_ 0
      have hylt : w.heap.size < w7.heap.size := H7.out.size
      have y0 := H7.out.y.cell (j := 0) rfl
      have y1 := H7.out.y.cell (j := 1) rfl
      have y2 := H7.out.y.cell (j := 2) rfl
      have y3 := H7.out.y.cell (j := 3) rfl
      have e0 := H7.out.zc.cell (j := 0) rfl
      have e1 := H7.out.zc.cell (j := 1) rfl
      have e2 := H7.out.zc.cell (j := 2) rfl
      have f0 := H7.out.zc.frozen 0
      have f1 := H7.out.zc.frozen 1
      have f2 := H7.out.zc.frozen 2
      rcases (show yz < 32 ∨ ¬ yz < 32 from by omega) with hl | hl
      · have g1 : (yz : Int) < 32 := by omega
        go_wp2_with fail
        refine bodyPost_ret (v := .agg #[.bool yb, .string yt, .slice yp yln yc]) (results_cells rfl _ _ w.heap.size [.bool yb, .string yt, .slice yp yln yc] _ (by rfl) (((H7.out.zc.set 0 (.bool yb)).set 1 (.string yt)).set 2 (.slice yp yln yc)).range Tryz.underlying46 rfl infoItemT) rfl ?_
        have hyl := HYL.out
        refine ⟨by unfold refV; rw [if_pos (by omega)], .slice pl nl cl, .slice pn np cn, H7.out.fin HXZ.out HYZ.out HBW.out (Nat.le_refl _) _ _ _ rfl⟩
      · have g1 : ¬ ((yz : Int) < 32) := by omega
        have g2 : decide ((yz : Int) < 32) = false := decide_eq_false g1
        have hal := laid1 w7 (.cells #[.string ⟨yby.toArray⟩] 9)
        have HS := Lib.hid (kecOne_l (l := yby) (k := keccakL yby) rfl w7.heap.size 0 _ ((HasCells.new w7 [.string ⟨yby.toArray⟩] 9).cell (j := 0) rfl) (by have h1 := HYL.out; have h2 := HBY.out; omega) (HK.out _ (H7.out.below.trans (hal.mono (by have := HBW.out; omega)))))
        have HAL := Lib.hid hal
        clear hal
        go_wp2_with fail
        refine HS.out.mono ?_
        rintro e v1 ⟨rfl, hb1⟩
        have HB1 := Lib.hid (HAL.out.trans (hb1.mono (by simp)))
        clear hb1
        go_wp2_with fail
        refine (rlpText_any (keccakL yby) v1).mono ?_
        rintro e v2 ⟨rfl, hb2⟩
        have HB2 := Lib.hid (HB1.out.trans (hb2.mono HB1.out.size))
        clear hb2
        have HZ := Lib.hid (H7.out.after HB2.out HBW.out (Nat.le_refl _))
        clear y0 y1 y2 y3 e0 e1 e2 f0 f1 f2
        have e0 := HZ.out.zc.cell (j := 0) rfl
        have e1 := HZ.out.zc.cell (j := 1) rfl
        have e2 := HZ.out.zc.cell (j := 2) rfl
        have f0 := HZ.out.zc.frozen 0
        have f1 := HZ.out.zc.frozen 1
        have f2 := HZ.out.zc.frozen 2
        go_wp2_with fail
        refine bodyPost_ret (v := .agg #[.bool false, .string ⟨(keccakL yby).toArray⟩, .slice none 0 0]) (results_cells rfl _ _ w.heap.size [.bool false, .string ⟨(keccakL yby).toArray⟩, .slice none 0 0] _ (by rfl) (((HZ.out.zc.set 0 (.bool false)).set 1 (.string ⟨(keccakL yby).toArray⟩)).set 2 (.slice none 0 0)).range Tryz.underlying46 rfl infoItemT) rfl ?_
        have hyl := HYL.out
        refine ⟨by unfold refV; rw [if_neg (by omega)], .slice pl nl cl, .slice pn np cn, HZ.out.fin HXZ.out HYZ.out HBW.out (Nat.le_refl _) _ _ _ rfl⟩
  · go_simp
    obtain ⟨w2, hal⟩ : ∃ W, w1.alloc (.cells #[.pointer (some ⟨gy, 0, none⟩)] 41) = W := ⟨_, rfl⟩
    have hlb : Below w1.heap.size w1 w2 := by rw [← hal]; exact laid1 w1 _
    have hltb : w1.heap.size < w2.heap.size := by rw [← hal]; simp
    have hzb : w.heap.size < w1.heap.size := H1.out.size
    have H2 := Lib.hid (H1.out.after hlb HBW.out (Nat.le_refl _))
    have hnn : w2.cell? ⟨w1.heap.size, 0, none⟩ = some (.pointer (some ⟨gy, 0, none⟩)) := by rw [← hal]; exact (HasCells.new w1 [.pointer (some ⟨gy, 0, none⟩)] 41).cell (j := 0) rfl
    have HCb2 := Lib.hid hnn
    rw [hal]
    clear hal hnn hlb H1
    refine hK.out _ _ (fun h => ⟨(H2.out.x.cell (j := 4) rfl), (H2.out.x.cell (j := 5) rfl)⟩) (fun _ => ?_)
    clear hK K
    try simp only [Act.put, zq1, zq2, zq3, zq4, zq5, zq6]
    refine wpAnyL_one (i := 7) (fuel := 8) (by kernel_rfl) rfl (fun K hK => ?_)
    go_simp
    obtain ⟨w3, hal⟩ : ∃ W, w2.alloc (.cells #[.string ⟨lead.toArray⟩] 9) = W := ⟨_, rfl⟩
    have hlb : Below w2.heap.size w2 w3 := by rw [← hal]; exact laid1 w2 _
    have hlta : w2.heap.size < w3.heap.size := by rw [← hal]; simp
    have hza : w.heap.size < w2.heap.size := H2.out.size
    have H3 := Lib.hid (H2.out.after hlb HBW.out (Nat.le_refl _))
    have hnn : w3.cell? ⟨w2.heap.size, 0, none⟩ = some (.string ⟨lead.toArray⟩) := by rw [← hal]; exact (HasCells.new w2 [.string ⟨lead.toArray⟩] 9).cell (j := 0) rfl
    have HCa3 := Lib.hid hnn
    have HCb3 := Lib.hid ((hlb.cell (p := ⟨w1.heap.size, 0, none⟩) (by omega)).trans HCb2.out)
    rw [hal]
    clear hal hnn hlb H2 HCb2
    refine hK.out _ _ (fun h => ⟨(H3.out.x.cell (j := 4) rfl), (H3.out.x.cell (j := 5) rfl)⟩) (fun _ => ?_)
    clear hK K
    try simp only [Act.put, zq1, zq2, zq3, zq4, zq5, zq6]
    refine wpAnyL_one (i := 8) (fuel := 7) (by kernel_rfl) rfl (fun K hK => ?_)
    refine step_appendTs (by rfl) _ _ 29 rfl B Tryz.underlying29 infoStr _ leads rfl H3.out.l ⟨w2.heap.size, 0, none⟩ 1 1 [⟨lead.toArray⟩] rfl rfl ?f0 ?f1 ?f2 ?_
    case f0 => exact fun j u hu => one_at hu (by rintro rfl rfl; exact HCa3.out)
    case f1 => have := HLN.out; omega
    case f2 => have := H3.out.below.size; have := HBW.out; omega
    intro ul w4 hm hg hpl
    rw [HLL.out] at hm
    obtain ⟨pl, cl, hul⟩ := hm.form
    rw [HNL.out] at hul
    subst hul
    have H4 := Lib.hid (H3.out.growL hm hg hpl HBW.out (Nat.le_refl _))
    have HCb4 := Lib.hid (hg.cell HCb3.out (fun e => by have h1 := HVL.out _ e.symm; have h2 : (⟨w1.heap.size, 0, none⟩ : Addr).block = w1.heap.size := rfl; omega))
    clear hm hg hpl H3 HCa3 HCb3
    refine hK.out _ _ (fun h => ⟨(H4.out.x.cell (j := 4) rfl), (H4.out.x.cell (j := 5) rfl)⟩) (fun _ => ?_)
    clear hK K
    try simp only [Act.put, zq1, zq2, zq3, zq4, zq5, zq6]
    refine wpAnyL_one (i := 15) (fuel := 6) (by kernel_rfl) rfl (fun K hK => ?_)
    refine step_appendN (by rfl) _ _ 47 rfl Tryz.underlying47 B _ ptrs rfl H4.out.n ⟨w1.heap.size, 0, none⟩ 1 gy rfl ?f0 ?f1 ?f2 ?_
    case f0 => exact HCb4.out
    case f1 => have := HPN.out; omega
    case f2 => have := H4.out.below.size; have := HBW.out; omega
    intro un w5 hm hg hpl
    rw [HPP.out] at hm
    obtain ⟨pn, cn, hun⟩ := hm.form
    rw [HNP.out] at hun
    subst hun
    have H5 := Lib.hid (H4.out.growN hm hg hpl HBW.out (Nat.le_refl _))
    clear hm hg hpl H4 HCb4
    refine hK.out _ _ (fun h => ⟨(H5.out.x.cell (j := 4) rfl), (H5.out.x.cell (j := 5) rfl)⟩) (fun _ => ?_)
    clear hK K
    try simp only [Act.put, zq1, zq2, zq3, zq4, zq5, zq6]
    refine wpAnyL_take (i := 16) (v := ?_) (fuel := 5) rfl (by kernel_rfl) (by kernel_rfl) (by kernel_rfl) (by kernel_rfl) (fun _ _ _ h => h) (fun Ls w' => by rw [getD_set_ne true (by omega)]) (fun _ => ⟨(H5.out.x.cell (j := 4) rfl), (H5.out.x.cell (j := 5) rfl)⟩) (.inl ⟨by rfl, ?_⟩) ?_
    rotate_left 1
    · rintro w' ⟨Ls, hcl, h0, hS⟩
      clear hS hcl h0
      go_simp <;> with_reducible rfl
    try simp only [Act.put, zq1, zq2, zq3, zq4, zq5, zq6]
    refine wpAnyL_take (i := 17) (v := ?_) (fuel := 4) rfl (by kernel_rfl) (by kernel_rfl) (by kernel_rfl) (by kernel_rfl) (fun _ _ _ h => h) (fun Ls w' => by rw [getD_set_ne true (by omega)]) (fun _ => ⟨(H5.out.x.cell (j := 4) rfl), (H5.out.x.cell (j := 5) rfl)⟩) (.inl ⟨by rfl, ?_⟩) ?_
    rotate_left 1
    · rintro w' ⟨Ls, hcl, h0, hS⟩
      clear hS hcl h0
      go_simp <;> with_reducible rfl
    try simp only [Act.put, zq1, zq2, zq3, zq4, zq5, zq6]
    refine wpAnyL_one (i := 18) (fuel := 3) (by kernel_rfl) rfl (fun K hK => ?_)
    have f4 := H5.out.x.frozen 4
    have f5 := H5.out.x.frozen 5
    have c4 := H5.out.x.cell (j := 4) rfl
    have c5 := H5.out.x.cell (j := 5) rfl
    go_simp
    clear f4 f5 c4 c5
    have H6 := Lib.hid (H5.out.setX HBX.out HXY.out HXZ.out 4 (.slice pl nl cl))
    obtain ⟨w6, hset⟩ : ∃ W, w5.setCell ⟨gx, 4, none⟩ (.slice pl nl cl) = W := ⟨_, rfl⟩
    rw [hset] at H6 ⊢
    clear hset H5
    refine hK.out _ _ (fun h => by cases h) (fun _ => ?_)
    clear hK K
    try simp only [Act.put, zq1, zq2, zq3, zq4, zq5, zq6]
    refine wpAnyL_take (i := 19) (v := ?_) (fuel := 2) rfl (by kernel_rfl) (by kernel_rfl) (by kernel_rfl) (by kernel_rfl) (fun _ _ _ h => h) (fun Ls w' => by rw [getD_set_ne true (by omega)]) (fun h => by cases h) (.inl ⟨by rfl, ?_⟩) ?_
    rotate_left 1
    · rintro w' ⟨Ls, hcl, h0, hS⟩
      clear hS hcl h0
      go_simp <;> with_reducible rfl
    try simp only [Act.put, zq1, zq2, zq3, zq4, zq5, zq6]
    refine wpAnyL_take (i := 20) (v := ?_) (fuel := 1) rfl (by kernel_rfl) (by kernel_rfl) (by kernel_rfl) (by kernel_rfl) (fun _ _ _ h => h) (fun Ls w' => by rw [getD_set_ne true (by omega)]) (fun h => by cases h) (.inl ⟨by rfl, ?_⟩) ?_
    rotate_left 1
    · rintro w' ⟨Ls, hcl, h0, hS⟩
      clear hS hcl h0
      go_simp <;> with_reducible rfl
    try simp only [Act.put, zq1, zq2, zq3, zq4, zq5, zq6]
    refine wpAnyL_one (i := 21) (fuel := 0) (by kernel_rfl) rfl (fun K hK => ?_)
    have f4 := H6.out.x.frozen 4
    have f5 := H6.out.x.frozen 5
    have c4 := H6.out.x.cell (j := 4) rfl
    have c5 := H6.out.x.cell (j := 5) rfl
    go_simp
    clear f4 f5 c4 c5
    have H7 := Lib.hid (H6.out.setX HBX.out HXY.out HXZ.out 5 (.slice pn np cn))
    obtain ⟨w7, hset⟩ : ∃ W, w6.setCell ⟨gx, 5, none⟩ (.slice pn np cn) = W := ⟨_, rfl⟩
    rw [hset] at H7 ⊢
    clear hset H6
    refine hK.out _ _ (fun h => by cases h) (fun _ => ?_)
    clear hK K
    try simp only [Act.put, zq1, zq2, zq3, zq4, zq5, zq6]
    refine wpAnyL_done (by kernel_rfl) ?_ 0
    have hylt : w.heap.size < w7.heap.size := H7.out.size
    have y0 := H7.out.y.cell (j := 0) rfl
    have y1 := H7.out.y.cell (j := 1) rfl
    have y2 := H7.out.y.cell (j := 2) rfl
    have y3 := H7.out.y.cell (j := 3) rfl
    have e0 := H7.out.zc.cell (j := 0) rfl
    have e1 := H7.out.zc.cell (j := 1) rfl
    have e2 := H7.out.zc.cell (j := 2) rfl
    have f0 := H7.out.zc.frozen 0
    have f1 := H7.out.zc.frozen 1
    have f2 := H7.out.zc.frozen 2
    rcases (show yz < 32 ∨ ¬ yz < 32 from by omega) with hl | hl
    · have g1 : (yz : Int) < 32 := by omega
      go_wp2_with fail
      refine bodyPost_ret (v := .agg #[.bool yb, .string yt, .slice yp yln yc]) (results_cells rfl _ _ w.heap.size [.bool yb, .string yt, .slice yp yln yc] _ (by rfl) (((H7.out.zc.set 0 (.bool yb)).set 1 (.string yt)).set 2 (.slice yp yln yc)).range Tryz.underlying46 rfl infoItemT) rfl ?_
      have hyl := HYL.out
      refine ⟨by unfold refV; rw [if_pos (by omega)], .slice pl nl cl, .slice pn np cn, H7.out.fin HXZ.out HYZ.out HBW.out (Nat.le_refl _) _ _ _ rfl⟩
    · have g1 : ¬ ((yz : Int) < 32) := by omega
      have g2 : decide ((yz : Int) < 32) = false := decide_eq_false g1
      have hal := laid1 w7 (.cells #[.string ⟨yby.toArray⟩] 9)
      have HS := Lib.hid (kecOne_l (l := yby) (k := keccakL yby) rfl w7.heap.size 0 _ ((HasCells.new w7 [.string ⟨yby.toArray⟩] 9).cell (j := 0) rfl) (by have h1 := HYL.out; have h2 := HBY.out; omega) (HK.out _ (H7.out.below.trans (hal.mono (by have := HBW.out; omega)))))
      have HAL := Lib.hid hal
      clear hal
      go_wp2_with fail
      refine HS.out.mono ?_
      rintro e v1 ⟨rfl, hb1⟩
      have HB1 := Lib.hid (HAL.out.trans (hb1.mono (by simp)))
      clear hb1
      go_wp2_with fail
      refine (rlpText_any (keccakL yby) v1).mono ?_
      rintro e v2 ⟨rfl, hb2⟩
      have HB2 := Lib.hid (HB1.out.trans (hb2.mono HB1.out.size))
      clear hb2
      have HZ := Lib.hid (H7.out.after HB2.out HBW.out (Nat.le_refl _))
      clear y0 y1 y2 y3 e0 e1 e2 f0 f1 f2
      have e0 := HZ.out.zc.cell (j := 0) rfl
      have e1 := HZ.out.zc.cell (j := 1) rfl
      have e2 := HZ.out.zc.cell (j := 2) rfl
      have f0 := HZ.out.zc.frozen 0
      have f1 := HZ.out.zc.frozen 1
      have f2 := HZ.out.zc.frozen 2
      go_wp2_with fail
      refine bodyPost_ret (v := .agg #[.bool false, .string ⟨(keccakL yby).toArray⟩, .slice none 0 0]) (results_cells rfl _ _ w.heap.size [.bool false, .string ⟨(keccakL yby).toArray⟩, .slice none 0 0] _ (by rfl) (((HZ.out.zc.set 0 (.bool false)).set 1 (.string ⟨(keccakL yby).toArray⟩)).set 2 (.slice none 0 0)).range Tryz.underlying46 rfl infoItemT) rfl ?_
      have hyl := HYL.out
      refine ⟨by unfold refV; rw [if_neg (by omega)], .slice pl nl cl, .slice pn np cn, HZ.out.fin HXZ.out HYZ.out HBW.out (Nat.le_refl _) _ _ _ rfl⟩
end Go.Proofs.YthicdhnjincflaaGreatDoor

namespace Go.Proofs.YthicdhnjincflaaGreatDoor
open Go.RowKit Go.Shelf Go.Lib
attribute [local go_sem] Oper.semAt_some
abbrev Part := Nat × List PairD
def PartOk (s : Part) : Prop := (s.1 = 16 ∧ ∃ v, s.2 = [([], v)]) ∨ ∃ b : UInt8, s.1 = b.toNat ∧ b.toNat < 16 ∧ s.2 ≠ [] ∧ ∀ x ∈ s.2, ∃ t, x.1 = b :: t
def PartsOk (ss : List Part) : Prop := (∀ s ∈ ss, PartOk s) ∧ ss.Pairwise fun a b => a.1 ≠ b.1 ∧ b.1 < 16
theorem PartOk.ne {s : Part} (h : PartOk s) : s.2 ≠ [] := by
  rcases h with ⟨_, v, h⟩ | ⟨b, _, _, h, _⟩
  · rw [h]; simp
  · exact h
theorem parts_next {b : UInt8} {m : List PairD} {tl : List Part} (h : PartsOk ((b.toNat, m) :: tl)) {q : PairD} (hq : (tl.flatMap (·.2))[0]? = some q) : ∃ (c : UInt8) (t : List UInt8), q.1 = c :: t ∧ c ≠ b := by
  cases tl with
  | nil => cases hq
  | cons s r =>
    have h1 := (List.pairwise_cons.1 h.2).1 s List.mem_cons_self
    have h2 := h.1 s (by simp)
    have h3 := h2.ne
    rcases h2 with ⟨h4, _⟩ | ⟨c, h4, _, _, h5⟩
    · have := h1.2; omega
    · obtain ⟨x, xs, hx⟩ : ∃ x xs, s.2 = x :: xs := by
        cases hs : s.2 with
        | nil => exact absurd hs h3
        | cons x xs => exact ⟨x, xs, rfl⟩
      rw [List.flatMap_cons, hx] at hq
      simp at hq
      subst hq
      obtain ⟨t, ht⟩ := h5 x (by rw [hx]; simp)
      refine ⟨c, t, ht, fun e => h1.1 ?_⟩
      rw [h4, e]
def SegAt (bk : Nat) (W : World) (v : Value) (l : List PairD) : Prop :=
  ∃ p c, v = .slice p l.length c ∧ l.length ≤ c ∧ (l = [] ∨ ∃ o, p = some ⟨bk, o, none⟩ ∧ bk < W.heap.size ∧ ∀ (j : Nat) q, l[j]? = some q → W.cell? ⟨bk, o + j * 2, none⟩ = some (.string ⟨q.1.toArray⟩) ∧ W.cell? ⟨bk, o + j * 2 + 1, none⟩ = some (.string ⟨q.2.toArray⟩))
theorem SegAt.form {bk : Nat} {W : World} {v : Value} {l : List PairD} (h : SegAt bk W v l) : ∃ p c, v = .slice p l.length c := by
  obtain ⟨p, c, h, _⟩ := h
  exact ⟨p, c, h⟩
theorem SegAt.kept {bk : Nat} {W W' : World} {v : Value} {l : List PairD} (h : SegAt bk W v l) (hb : W'.heap[bk]? = W.heap[bk]?) : SegAt bk W' v l := by
  obtain ⟨p, c, h1, h2, h3⟩ := h
  refine ⟨p, c, h1, h2, ?_⟩
  rcases h3 with h3 | ⟨o, h4, h5, h6⟩
  · exact .inl h3
  · refine .inr ⟨o, h4, ?_, fun j q hq => ⟨(World.cell?_of_block (a := ⟨bk, o + j * 2, none⟩) hb).trans (h6 j q hq).1, (World.cell?_of_block (a := ⟨bk, o + j * 2 + 1, none⟩) hb).trans (h6 j q hq).2⟩⟩
    rw [Array.getElem?_eq_getElem h5] at hb
    exact (Array.getElem?_eq_some_iff.1 hb).1
theorem SegAt.pairs {bk : Nat} {W : World} {v : Value} {l : List PairD} (h : SegAt bk W v l) : Pairs W v l := by
  obtain ⟨p, c, h1, h2, h3⟩ := h
  exact ⟨p, c, h1, h2, h3.imp id fun ⟨o, h4, h5, h6⟩ => ⟨bk, o, h4, h5, h6⟩⟩
theorem SegAt.take {bk : Nat} {W : World} {p : Option Addr} {c : Nat} {a b : List PairD} (h : SegAt bk W (.slice p (a ++ b).length c) (a ++ b)) (ha : a ≠ []) : SegAt bk W (.slice p a.length c) a := by
  obtain ⟨p', c', h1, h2, h3⟩ := h
  cases h1
  refine ⟨p, c, rfl, by simp at h2; omega, ?_⟩
  rcases h3 with h3 | ⟨o, h4, h5, h6⟩
  · simp at h3; exact absurd h3.1 ha
  · exact .inr ⟨o, h4, h5, fun j q hq => h6 j q (by rw [List.getElem?_append_left (List.getElem?_eq_some_iff.1 hq).1]; exact hq)⟩
theorem SegAt.drop {bk : Nat} {W : World} {p : Option Addr} {c o : Nat} {a b : List PairD} (h : SegAt bk W (.slice (some ⟨bk, o, none⟩) (a ++ b).length c) (a ++ b)) (ha : a ≠ []) {m cc : Nat} (hm : m = b.length) (hc : b.length ≤ cc) (hp : b ≠ [] → p = some ⟨bk, o + a.length * 2, none⟩) : SegAt bk W (.slice p m cc) b := by
  obtain ⟨p', c', h1, h2, h3⟩ := h
  cases h1
  subst hm
  refine ⟨p, cc, rfl, hc, ?_⟩
  by_cases hb : b = []
  · exact .inl hb
  · rcases h3 with h3 | ⟨o', h4, h5, h6⟩
    · simp at h3; exact absurd h3.1 ha
    · cases h4
      refine .inr ⟨_, hp hb, h5, fun j q hq => ?_⟩
      have := h6 (a.length + j) q (by rw [List.getElem?_append_right (by omega), show a.length + j - a.length = j by omega]; exact hq)
      rw [show o + (a.length + j) * 2 = o + a.length * 2 + j * 2 by omega] at this
      exact this
abbrev ElP := Part × Value
def encP (x : ElP) : Array Value := #[.int .i64 x.1.1, x.2]
def StepG (Bn : Nat) (A B : World) : Prop := A.grownBy B (some Bn) ∧ ((∃ t, Boxed A Bn 67 t) → ∃ t, Boxed B Bn 67 t)
def GoodG (ss : List Part) (bk : Nat) (pre : List ElP) (x : ElP) (_ W1 : World) : Prop := ss[pre.length]? = some x.1 ∧ SegAt bk W1 x.2 x.1.2
def KeepG (bk Bn : Nat) (W W' : World) : Prop := W'.heap[bk]? = W.heap[bk]? ∧ W'.heap[Bn]? = W.heap[Bn]?
theorem StepG.of {Bn : Nat} {wr : World} {t : Value} (hb : Boxed wr Bn 67 t) (t' : Value) : StepG Bn wr (wr.setCell ⟨Bn, 0, none⟩ t') ∧ Boxed (wr.setCell ⟨Bn, 0, none⟩ t') Bn 67 t' :=
  ⟨⟨grownBy_setCell' wr Bn t', fun _ => ⟨t', hb.set _⟩⟩, hb.set _⟩
theorem StepG.refl {Bn : Nat} (W : World) : StepG Bn W W := ⟨⟨rfl, rfl, rfl, Nat.le_refl _, fun _ _ _ => rfl⟩, id⟩
def boxL (W : World) (B : Nat) : Nat := match W.cell? ⟨B, 0, none⟩ with
  | some (.slice _ n _) => n
  | _ => 0
theorem boxL_of {W : World} {B : Nat} {t : TypeId} {p : Option Addr} {n c : Nat} (h : Boxed W B t (.slice p n c)) : boxL W B = n := by
  unfold boxL; rw [h.cell]
theorem parts_any (F : Fence) (n : Nat) (hf : F.fn 60) (hro : F.round = none) (p : Option Addr) (m c : Nat) (w : World) :
    CallsIn F n Tryz.prog 60 #[.slice p m c] w fun e w' => e = .returned (.func (.func 92) #[] #[.pointer (some ⟨w.heap.size, 0, none⟩)]) ∧ w' = w.alloc (.cells #[.slice p m c] 67) := by
  refine callsIn_of_wp Tryz.func60 rfl hf ?_ hro
  simp only [Tryz.ntmps60, List.size_toArray, List.length_cons, List.length_nil, Nat.reduceAdd, Nat.reduceSub, Array.replicate_succ, Array.replicate_zero, List.push_toArray, List.append_toArray, List.nil_append, List.cons_append]
  gi_wp2
  go_ret
  exact ⟨rfl, rfl⟩
set_option maxRecDepth 100000 in
set_option maxHeartbeats 6400000 in
theorem parts_body (n : Nat) (hn : 1 ≤ n) (l Bn bk : Nat) (ss : List Part) (hss : PartsOk ss) (hbb : bk ≠ Bn) (J Jx : List ElP → World → Prop)
    (hJs : ∀ s A B, J s A → StepG Bn A B → J s B)
    (hY : ∀ pre x W0 W1, J pre W0 → StepG Bn W0 W1 → GoodG ss bk pre x W0 W1 → YieldAt Fence.wide (n - 1) Tryz.prog l (encP x) W1 fun e W' =>
      (e = .returned (.bool true) ∧ J (pre ++ [x]) W' ∧ KeepG bk Bn W1 W') ∨ (e = .returned (.bool false) ∧ Jx (pre ++ [x]) W'))
    (v : Value) (W : World) (hbox : Boxed W Bn 67 v) (hv : SegAt bk W v (ss.flatMap (·.2))) (hlen : (ss.flatMap (·.2)).length ≤ 1000) (h0 : J [] W) :
    CallsIn Fence.wide n Tryz.prog 92 #[.func (.yield l) #[] #[], .pointer (some ⟨Bn, 0, none⟩)] W fun e W' => (∃ v, e = .returned v) ∧
      ((∃ xs, xs.map Prod.fst = ss ∧ J xs W') ∨ (∃ pre, Jx pre W')) := by
  have HSS := Lib.hid hss
  have HBB := Lib.hid hbb
  have HJS := Lib.hid hJs
  have hc := hbox.cell
  have HV := Lib.hid hv
  have HBX := Lib.hid hbox
  have HLEN := Lib.hid hlen
  clear hss hJs hv hlen
  refine callsIn_of_wp Tryz.func92 rfl trivial ?_ rfl
  simp only [Tryz.ntmps92, List.size_toArray, List.length_cons, List.length_nil, Nat.reduceAdd, Nat.reduceSub, Array.replicate_succ, Array.replicate_zero, List.push_toArray, List.append_toArray, List.nil_append, List.cons_append]
  clear hc hbox
  gi_wp2
  gi_loopw [] (fun wr => ∃ (pre : List ElP) (rest : List Part) (u : Value), Hid (ss = pre.map Prod.fst ++ rest) ∧ Boxed wr Bn 67 u ∧ Hid (SegAt bk wr u (rest.flatMap (·.2))) ∧ J pre wr) (fun wr => boxL wr Bn)
  case atStart => exact ⟨[], ss, v, Lib.hid rfl, HBX.out, HV, h0⟩
  case round =>
    obtain ⟨pre, rest, u, HR, hb, HSG, hJ0⟩ := hrel
    have hN2 : (rest.flatMap (·.2)).length ≤ 1000 := by
      have h1 := HLEN.out
      rw [HR.out, List.flatMap_append, List.length_append] at h1
      omega
    cases rest with
    | nil =>
      obtain ⟨p, c, hu⟩ := HSG.out.form
      subst hu
      have hc := hb.cell
      simp only [List.flatMap_nil, List.length_nil] at hc
      gi_wp2
      go_end0
      exact ⟨⟨_, rfl⟩, .inl ⟨pre, by have := HR.out; simpa using this.symm, hJ0⟩⟩
    | cons s tl =>
      have hok := HSS.out
      rw [HR.out] at hok
      have hok1 : PartsOk (s :: tl) := ⟨fun x hx => hok.1 x (List.mem_append_right _ hx), (List.pairwise_append.1 hok.2).2.1⟩
      have HOK := Lib.hid hok1
      have hsx : ss[pre.length]? = some s := by rw [HR.out, List.getElem?_append_right (by simp)]; simp
      have HSX := Lib.hid hsx
      have hR2 : ∀ v, ss = (pre ++ [((s, v) : ElP)]).map Prod.fst ++ tl := fun v => by rw [HR.out]; simp
      have HR2 := Lib.hid hR2
      have hsg := HSG.out
      rw [List.flatMap_cons] at hsg hN2
      have hne := (hok1.1 s List.mem_cons_self).ne
      have hnx := fun (b : UInt8) (m : List PairD) (e : s = (b.toNat, m)) (q : PairD) => parts_next (b := b) (m := m) (tl := tl) (q := q) (e ▸ hok1)
      obtain ⟨T, hT⟩ : ∃ T, tl.flatMap (·.2) = T := ⟨_, rfl⟩
      rw [hT] at hsg hN2 hnx
      have HT := Lib.hid hT
      have hsg0 := hsg
      obtain ⟨p, c, hu, hNc, hcl⟩ := hsg
      obtain ⟨o, rfl, hbk, hcl⟩ := hcl.resolve_left (fun e => hne (by simp at e; exact e.1))
      have hclx := hcl
      clear hcl
      have hcl := hclx
      clear hclx
      have HSD := Lib.hid (fun W (hk : W.heap[bk]? = wr.heap[bk]?) p m cc (hm : m = T.length) (hc : T.length ≤ cc) hp => (hu ▸ hsg0.kept hk : SegAt bk W _ _).drop hne (p := p) (m := m) (cc := cc) hm hc hp)
      have HST := Lib.hid ((hu ▸ hsg0 : SegAt bk wr _ _).take hne)
      have hp1 := hok1.1 s List.mem_cons_self
      obtain ⟨N, hN⟩ : ∃ N, (s.2 ++ T).length = N := ⟨_, rfl⟩
      obtain ⟨M, hM⟩ : ∃ M, s.2.length = M := ⟨_, rfl⟩
      obtain ⟨TT, hTT⟩ : ∃ TT, T.length = TT := ⟨_, rfl⟩
      have hNM : N = M + TT := by rw [← hN, ← hM, ← hTT, List.length_append]
      have hM0 : 0 < M := by rw [← hM]; exact List.length_pos_iff.2 hne
      have HMM := Lib.hid hM
      have HTT := Lib.hid hTT
      rw [hN] at hN2 hu hNc
      rw [hM] at HST HSD
      rw [hTT] at HSD
      subst hu
      have hc := hb.cell
      have HB := Lib.hid hb
      have hBl := hb.lt
      clear hb hsg0 hT hN hTT hM hok hok1 hsx HSG HR hR2
      have g0 : 0 < N := by omega
      have g1 : (1 : Int) ≤ (N : Int) := by omega
      have g2 : (0 : Int) ≤ (N : Int) := by omega
      rcases hp1 with ⟨h16, v, hv⟩ | ⟨b, hb, hb16, -, hm⟩
      · obtain ⟨h, m⟩ := s
        dsimp only at h16 hv
        subst h16
        subst hv
        obtain rfl : M = 1 := HMM.out.symm
        have c0 := (hcl 0 ([], v) rfl).1
        rw [Nat.zero_mul, Nat.add_zero] at c0
        obtain ⟨f1, t1, a1, b1, hy1, hR1⟩ := hY pre ((16, [([], v)]), .slice (some ⟨bk, o, none⟩) 1 c) wr wr hJ0 (StepG.refl _) ⟨HSX.out, HST.out⟩
        have HR1 := Lib.hid hR1
        simp only [encP, show ((16 : Nat) : Int) = 16 from rfl] at hy1
        have HCL := Lib.hid hcl
        clear hcl hR1
        gi_wp2
        refine HR1.out.mono ?_
        clear hy1 c0 hc
        rintro e W1 (⟨rfl, hJ1, hk1⟩ | ⟨rfl, hx1⟩)
        · have hb1 : Boxed W1 Bn 67 _ := hk1.2.trans HB.out
          have HB1 := Lib.hid hb1
          have hc := hb1.cell
          have hf := hb1.frozen
          have HK1 := Lib.hid hk1
          clear hb1 hk1
          gi_wp2
          obtain ⟨S1, S2⟩ := StepG.of HB1.out (.slice (if c = 1 then some ⟨bk, o, none⟩ else some ⟨bk, o + 2, none⟩) TT (c - 1))
          refine ⟨⟨pre ++ [((16, [([], v)]), .slice (some ⟨bk, o, none⟩) 1 c)], tl, _, Lib.hid (HR2.out _), S2, Lib.hid ?_, HJS.out _ _ _ hJ1 S1⟩, ?_⟩
          · rw [HT.out]
            refine HSD.out _ ((Below.heap_setCell W1 ⟨Bn, 0, none⟩ _ bk HBB.out).trans HK1.out.1) _ _ _ rfl (by omega) (fun hne => ?_)
            have : 0 < T.length := List.length_pos_iff.2 hne
            rw [HTT.out] at this
            rw [if_neg (by omega)]
          · rw [boxL_of S2, boxL_of HB.out]
            omega
        · gi_wp2
          refine bodyPost_ret (results_none rfl _ _ _) rfl ?_
          exact ⟨⟨_, rfl⟩, .inr ⟨_, hx1⟩⟩
      · obtain ⟨h, m⟩ := s
        dsimp only at hb hm hne HMM HST HSD hnx hNM
        have hcl : ∀ (j : Nat) (q : PairD), (m ++ T)[j]? = some q → wr.cell? ⟨bk, o + j * 2, none⟩ = some (.string ⟨q.1.toArray⟩) ∧ wr.cell? ⟨bk, o + j * 2 + 1, none⟩ = some (.string ⟨q.2.toArray⟩) := hcl
        subst hb
        have hnx := hnx b m rfl
        have HNX := Lib.hid hnx
        have HM1 := Lib.hid hm
        obtain ⟨f1, t1, a1, b1, hy1, hR1⟩ := hY pre ((b.toNat, m), .slice (some ⟨bk, o, none⟩) M c) wr wr hJ0 (StepG.refl _) ⟨HSX.out, HST.out⟩
        have HR1 := Lib.hid hR1
        have HCL := Lib.hid hcl
        have hat : ∀ k, k < M → ∃ t, wr.cell? ⟨bk, o + k * 2, none⟩ = some (.string ⟨(b :: t).toArray⟩) := fun k hk => by
          obtain ⟨q, hq⟩ : ∃ q, m[k]? = some q := ⟨_, List.getElem?_eq_getElem (by rw [HMM.out]; exact hk)⟩
          obtain ⟨t, ht⟩ := HM1.out q (List.mem_of_getElem? hq)
          refine ⟨t, ?_⟩
          rw [← ht]
          exact (HCL.out k q (by rw [List.getElem?_append_left (by rw [HMM.out]; exact hk)]; exact hq)).1
        have hend : M < N → ∃ (d : UInt8) (t : List UInt8), wr.cell? ⟨bk, o + M * 2, none⟩ = some (.string ⟨(d :: t).toArray⟩) ∧ d ≠ b := fun hk => by
          obtain ⟨q, hq⟩ : ∃ q, T[0]? = some q := ⟨_, List.getElem?_eq_getElem (by rw [HTT.out]; omega)⟩
          obtain ⟨d, t, h1, h2⟩ := HNX.out q hq
          refine ⟨d, t, ?_, h2⟩
          rw [← h1]
          exact (HCL.out M q (by rw [List.getElem?_append_right (by rw [HMM.out]; exact Nat.le_refl _), HMM.out, Nat.sub_self]; exact hq)).1
        have HAT := Lib.hid hat
        have HEND := Lib.hid hend
        obtain ⟨t0, c0⟩ := hat 0 hM0
        rw [Nat.zero_mul, Nat.add_zero] at c0
        have HN1 := Lib.hid hN2
        clear hcl hnx hm hat hend hne hR1 hN2
        have HY1 := Lib.hid hy1
        clear hy1
        have hw0 : wrap64 (((⟨(b :: t0).toArray⟩ : ByteArray)[0]'(Nat.succ_pos _)).toNat : Int) = (b.toNat : Int) := by show wrap64 (b.toNat : Int) = _; unfold wrap64; omega
        gi_wp2
        gi_loopw [4] (fun nv wr2 => ∃ k : Nat, 1 ≤ k ∧ k ≤ M ∧ nv = .int .i64 k ∧ wr2 = wr) (fun nv _ => M - (RowKit.intOf nv).toNat)
        case atStart => exact ⟨1, Nat.le_refl _, hM0, rfl, rfl⟩
        case round =>
          obtain ⟨k, hk1, hkM, rfl, rfl⟩ := hrel
          have gk0 : (0 : Int) ≤ (k : Int) := by omega
          by_cases hkl : k < M
          · have gk : (k : Int) < (N : Int) := by omega
            have gk2 : k < N := by omega
            obtain ⟨t1, c1⟩ := HAT.out k hkl
            have hz2 : wrap64 (((⟨(b :: t1).toArray⟩ : ByteArray)[0]'(Nat.succ_pos _)).toNat : Int) = (b.toNat : Int) := by show wrap64 (b.toNat : Int) = _; unfold wrap64; omega
            gi_wp2
            have hw1 : wrap64 ((k : Int) + 1) = (k : Int) + 1 := by have := HN1.out; unfold wrap64; omega
            have HW1 := Lib.hid hw1
            clear hw1
            go_roundw
            case rel =>
              rw [HW1.out]
              exact ⟨k + 1, by omega, by omega, rfl, trivial⟩
            case measure =>
              rw [HW1.out]
              simp only [RowKit.intOf]
              omega
          · obtain rfl : k = M := by omega
            by_cases hTT : k < N
            · have gk : (k : Int) < (N : Int) := by omega
              obtain ⟨d, t1, c1, hdb⟩ := HEND.out hTT
              have hz2 : wrap64 (((⟨(d :: t1).toArray⟩ : ByteArray)[0]'(Nat.succ_pos _)).toNat : Int) = (d.toNat : Int) := by have := d.toNat_lt; show wrap64 (d.toNat : Int) = _; unfold wrap64; omega
              have hz3 : ¬ d.toNat = b.toNat := fun e => hdb (UInt8.toNat_inj.1 e)
              have hz4 : ((d.toNat : Int) == (b.toNat : Int)) = false := by rw [beq_eq_false_iff_ne]; omega
              have hy1 := HY1.out
              simp only [encP] at hy1
              have gk : (k : Int) ≤ (N : Int) := by omega
              have gM1 : (0 : Int) ≤ (k : Int) := by omega
              gi_wp2
              refine HR1.out.mono ?_
              clear hy1 c0 hc
              rintro e W1 (⟨rfl, hJ1, hk1⟩ | ⟨rfl, hx1⟩)
              · have hb1 : Boxed W1 Bn 67 _ := hk1.2.trans HB.out
                have HB1 := Lib.hid hb1
                have hc := hb1.cell
                have hf := hb1.frozen
                have HK1 := Lib.hid hk1
                clear hb1 hk1
                gi_wp2
                obtain ⟨S1, S2⟩ := StepG.of HB1.out (.slice (some ⟨bk, o + k * 2, none⟩) TT (c - k))
                refine ⟨⟨pre ++ [((b.toNat, m), .slice (some ⟨bk, o, none⟩) k c)], tl, _, Lib.hid (HR2.out _), S2, Lib.hid ?_, HJS.out _ _ _ hJ1 S1⟩, ?_⟩
                · rw [HT.out]
                  refine HSD.out _ ((Below.heap_setCell W1 ⟨Bn, 0, none⟩ _ bk HBB.out).trans HK1.out.1) _ _ _ rfl (by omega) (fun hne => ?_)
                  rfl
                · rw [boxL_of S2, boxL_of HB.out]
                  omega
              · gi_wp2
                refine bodyPost_ret (results_none rfl _ _ _) rfl ?_
                exact ⟨⟨_, rfl⟩, .inr ⟨_, hx1⟩⟩
            · have gk : ¬ (k : Int) < (N : Int) := by omega
              have hy1 := HY1.out
              simp only [encP] at hy1
              have gk : (k : Int) ≤ (N : Int) := by omega
              have gM1 : (0 : Int) ≤ (k : Int) := by omega
              gi_wp2
              refine HR1.out.mono ?_
              clear hy1 c0 hc
              rintro e W1 (⟨rfl, hJ1, hk1⟩ | ⟨rfl, hx1⟩)
              · have hb1 : Boxed W1 Bn 67 _ := hk1.2.trans HB.out
                have HB1 := Lib.hid hb1
                have hc := hb1.cell
                have hf := hb1.frozen
                have HK1 := Lib.hid hk1
                clear hb1 hk1
                gi_wp2
                obtain ⟨S1, S2⟩ := StepG.of HB1.out (.slice (if c = k then some ⟨bk, o, none⟩ else some ⟨bk, o + k * 2, none⟩) TT (c - k))
                refine ⟨⟨pre ++ [((b.toNat, m), .slice (some ⟨bk, o, none⟩) k c)], tl, _, Lib.hid (HR2.out _), S2, Lib.hid ?_, HJS.out _ _ _ hJ1 S1⟩, ?_⟩
                · rw [HT.out]
                  refine HSD.out _ ((Below.heap_setCell W1 ⟨Bn, 0, none⟩ _ bk HBB.out).trans HK1.out.1) _ _ _ rfl (by omega) (fun hne => ?_)
                  have : 0 < T.length := List.length_pos_iff.2 hne
                  rw [HTT.out] at this
                  rw [if_neg (by omega)]
                · rw [boxL_of S2, boxL_of HB.out]
                  omega
              · gi_wp2
                refine bodyPost_ret (results_none rfl _ _ _) rfl ?_
                exact ⟨⟨_, rfl⟩, .inr ⟨_, hx1⟩⟩
end Go.Proofs.YthicdhnjincflaaGreatDoor

namespace Go.Proofs.YthicdhnjincflaaGreatDoor
open Go.RowKit Go.Shelf Go.Lib
attribute [local go_sem] Oper.semAt_some
def cutQ (d : Nat) (q : PairD) : PairD := ((pth q).drop d, q.2)
theorem cutQ_cut (d n : Nat) (q : PairD) : cutF n (cutQ d q) = cutQ (d + n) q := by
  unfold cutF cutQ; simp [List.drop_drop]
def GrowC (f : Nat) : Prop := ∀ (qs : List PairD) (d : Nat) (v : Value) (w : World), Asc qs → Even qs d → Valid qs d → Fair qs → qs.Pairwise (fun a b => a.1 ≠ b.1) → qs.length ≤ 1000 → 129 ≤ d + f → KecT w → Pairs w v (qs.map (cutQ d)) →
  Calls Tryz.prog 34 #[v] w fun e w' => ∃ g, e = .returned (.pointer (some ⟨g, 0, none⟩)) ∧ NodeAt f (fun k => w.heap.size ≤ k ∧ k < w'.heap.size) w' qs d g ∧ Below w.heap.size w w'
theorem encode_list {l : List Item} {b : Bool} {p : List UInt8} (hf : Fit b (lstI l)) (hp : put (lstI l) = p) (v : Value) (W : World) (hr : Reads W W.heap.size v l) :
    Calls Tryz.prog 61 #[.agg #[.bool true, .string ⟨#[]⟩, v]] W fun e w' => e = .returned (.tuple #[.string ⟨p.toArray⟩, .int .i64 0]) ∧ Below W.heap.size W w' := by
  subst hp
  have hs := fit_size hf
  have h := encode_any (lstI l) v W hs.1 hs.2 hr
  unfold encodeV at h
  rw [hf.encode] at h
  exact h
theorem Pairs.cells {W : World} {v : Value} {l : List PairD} (h : Pairs W v l) (hl : l ≠ []) : ∃ bk o c, v = .slice (some ⟨bk, o, none⟩) l.length c ∧ l.length ≤ c ∧ bk < W.heap.size ∧ ∀ (j : Nat) q, l[j]? = some q → W.cell? ⟨bk, o + j * 2, none⟩ = some (.string ⟨q.1.toArray⟩) ∧ W.cell? ⟨bk, o + j * 2 + 1, none⟩ = some (.string ⟨q.2.toArray⟩) := by
  obtain ⟨p, c, hv, hc, h3⟩ := h
  obtain ⟨bk, o, rfl, hb, hcl⟩ := h3.resolve_left hl
  exact ⟨bk, o, c, hv, hc, hb, hcl⟩
theorem three_low {B : Nat} {w w' : World} (h : Below B w w') {q : Nat} (hq : B ≤ q) (i j k : Nat) (a b c : Value) : Below B w (((w'.setCell ⟨q, i, none⟩ a).setCell ⟨q, j, none⟩ b).setCell ⟨q, k, none⟩ c) :=
  ((h.setCell (p := ⟨q, i, none⟩) hq a).setCell (p := ⟨q, j, none⟩) hq b).setCell (p := ⟨q, k, none⟩) hq c
set_option maxRecDepth 100000 in
set_option maxHeartbeats 12800000 in
theorem grow_leaf (f : Nat) (q : PairD) (d : Nat) (v : Value) (w : World) (hval : Valid [q] d) (hfa : Fair [q]) (hfd : 129 ≤ d + (f + 1)) (hv : Pairs w v [cutQ d q]) :
    Calls Tryz.prog 34 #[v] w fun e w' => ∃ g, e = .returned (.pointer (some ⟨g, 0, none⟩)) ∧ NodeAt (f + 1) (fun k => w.heap.size ≤ k ∧ k < w'.heap.size) w' [q] d g ∧ Below w.heap.size w w' := by
  obtain ⟨b, hfit⟩ := node_fit (K := keccakL) keccakL_length (f + 1) [q] d hval hfa hfd
  have hql := (hval.2 q List.mem_cons_self).2
  obtain ⟨pt, hpt⟩ : ∃ p, (pth q).drop d = p := ⟨_, rfl⟩
  obtain ⟨vl, hvl⟩ : ∃ p, q.2 = p := ⟨_, rfl⟩
  obtain ⟨fm, hfm⟩ : ∃ s, (form pt true).1 = s := ⟨_, rfl⟩
  have hx : nodeP keccakL (f + 1) [q] d = lstI [txtI fm, txtI vl] := by
    rw [← hfm, ← hpt, ← hvl]; rfl
  rw [hx] at hfit
  obtain ⟨by_, hby⟩ : ∃ p, put (lstI [txtI fm, txtI vl]) = p := ⟨_, rfl⟩
  have HBY := Lib.hid (show bytesP keccakL (f + 1) [q] d = by_ from by unfold bytesP; rw [hx, hfit.encode, hby])
  have HX := Lib.hid hx
  have HE := Lib.hid (encode_list hfit hby)
  have hpl : pt.length ≤ 128 := by rw [← hpt, List.length_drop]; omega
  have HF := Lib.hid (fun W => growForm_any pt true W (by omega))
  rw [hfm] at HF
  have HT := Lib.hid (fun W => rlpText_any vl W)
  have HCM := Lib.hid (fun W => common_any ⟨pt.toArray⟩ ⟨pt.toArray⟩ W (by show pt.length ≤ _; omega) (by show pt.length ≤ _; omega))
  obtain ⟨cm, hcm⟩ : ∃ n, common (⟨pt.toArray⟩ : ByteArray).data.toList (⟨pt.toArray⟩ : ByteArray).data.toList = n := ⟨_, rfl⟩
  rw [hcm] at HCM
  obtain ⟨bk, ob, c, rfl, -, hbk, hcl⟩ := hv.cells (by simp)
  obtain ⟨c0, c1⟩ := hcl 0 _ rfl
  rw [Nat.zero_mul, Nat.add_zero] at c0 c1
  rw [show (cutQ d q).1 = pt from hpt] at c0
  rw [show (cutQ d q).2 = vl from hvl] at c1
  have HC := Lib.hid (fun W (hb : Below w.heap.size w W) => (show W.cell? ⟨bk, ob, none⟩ = some (.string ⟨pt.toArray⟩) ∧ W.cell? ⟨bk, ob + 1, none⟩ = some (.string ⟨vl.toArray⟩) from
    ⟨(hb.cell (p := ⟨bk, ob, none⟩) hbk).trans c0, (hb.cell (p := ⟨bk, ob + 1, none⟩) hbk).trans c1⟩))
  rw [show ([cutQ d q] : List PairD).length = 1 from rfl]
  have w00 : IntKind.i64.wrap (0 : Int) = 0 := by decide
  clear hval hfa hfd hv hfit hx hby hfm hcm hcl c0 c1 hpl hql hpt hvl
  go_enter Tryz.func34, Tryz.ntmps34
  go_wp2_with fail
  obtain ⟨w0, hw0⟩ : ∃ W, (w.alloc (.cells #[.bool false, .string ⟨#[]⟩, .slice none 0 0, .string ⟨#[]⟩, .slice none 0 0, .slice none 0 0] 49)).alloc (.cells #[.pointer (some ⟨w.heap.size, 0, none⟩)] 41) = W := ⟨_, rfl⟩
  have hb0 : Below w.heap.size w w0 := by rw [← hw0]; exact laid2 w _ _
  have hx0 : HasCells w0 w.heap.size [.bool false, .string ⟨#[]⟩, .slice none 0 0, .string ⟨#[]⟩, .slice none 0 0, .slice none 0 0] 49 := by rw [← hw0]; exact (HasCells.new w [.bool false, .string ⟨#[]⟩, .slice none 0 0, .string ⟨#[]⟩, .slice none 0 0, .slice none 0 0] 49).alloc _
  have hp0 : HasCells w0 (w.heap.size + 1) [.pointer (some ⟨w.heap.size, 0, none⟩)] 41 := by
    have h := HasCells.new (w.alloc (.cells #[.bool false, .string ⟨#[]⟩, .slice none 0 0, .string ⟨#[]⟩, .slice none 0 0, .slice none 0 0] 49)) [.pointer (some ⟨w.heap.size, 0, none⟩)] 41
    rw [World.size_alloc] at h
    rw [← hw0]
    exact h
  have HB0 := Lib.hid hb0
  have HX0 := Lib.hid hx0
  have HP0 := Lib.hid hp0
  rw [hw0]
  clear hw0 hb0 hx0 hp0
  refine wp_region_held_drew (S := (fun W => W.cell? ⟨bk, ob, none⟩ = some (.string ⟨pt.toArray⟩))) (by kernel_rfl) ((HC.out _ HB0.out.drew).1) (fun hHeld => ?_)
  refine wpAnyH_take (i := 0) (v := ?_) rfl (by kernel_rfl) (by kernel_rfl) (by kernel_rfl) (fun _ _ _ h => h) (.inl ⟨by rfl, ?_⟩) (by assumption) ?_
  rotate_left 1
  · intro w0 hSw
    go_simp <;> with_reducible rfl
  try simp only [Act.put, zq1, zq2, zq4, zq5, zq6]
  refine wpAnyH_take (i := 1) (v := ?_) rfl (by kernel_rfl) (by kernel_rfl) (by kernel_rfl) (fun _ _ _ h => h) (.inl ⟨by rfl, ?_⟩) (by assumption) ?_
  rotate_left 1
  · intro w0 hSw
    go_simp <;> with_reducible rfl
  try simp only [Act.put, zq1, zq2, zq3, zq4, zq5, zq6]
  refine wpAnyH_take (i := 2) (v := ?_) rfl (by kernel_rfl) (by kernel_rfl) (by kernel_rfl) (fun _ _ _ h => h) (.inl ⟨by rfl, ?_⟩) (by assumption) ?_
  rotate_left 1
  · intro w0 hSw
    go_simp <;> with_reducible rfl
  try simp only [Act.put, zq1, zq2, zq3, zq4, zq5, zq6]
  refine wpAnyH_take (i := 3) (v := ?_) rfl (by kernel_rfl) (by kernel_rfl) (by kernel_rfl) (fun _ _ _ h => h) (.inl ⟨by rfl, ?_⟩) (by assumption) ?_
  rotate_left 1
  · intro w0 hSw
    have z0 := hSw
    go_simp <;> with_reducible rfl
  try simp only [Act.put, zq1, zq2, zq3, zq4, zq5, zq6]
  refine wpAnyH_take (i := 4) (v := ?_) rfl (by kernel_rfl) (by kernel_rfl) (by kernel_rfl) (fun _ _ _ h => h) (.inl ⟨by rfl, ?_⟩) (by assumption) ?_
  rotate_left 1
  · intro w0 hSw
    go_simp <;> with_reducible rfl
  try simp only [Act.put, zq1, zq2, zq3, zq4, zq5, zq6]
  refine wpAnyH_take (i := 5) (v := ?_) rfl (by kernel_rfl) (by kernel_rfl) (by kernel_rfl) (fun _ _ _ h => h) (.inl ⟨by rfl, ?_⟩) (by assumption) ?_
  rotate_left 1
  · intro w0 hSw
    go_simp <;> with_reducible rfl
  try simp only [Act.put, zq1, zq2, zq3, zq4, zq5, zq6]
  refine wpAnyH_take (i := 6) (v := ?_) rfl (by kernel_rfl) (by kernel_rfl) (by kernel_rfl) (fun _ _ _ h => h) (.inl ⟨by rfl, ?_⟩) (by assumption) ?_
  rotate_left 1
  · intro w0 hSw
    go_simp <;> with_reducible rfl
  try simp only [Act.put, zq1, zq2, zq3, zq4, zq5, zq6]
  refine wpAnyH_take (i := 7) (v := ?_) rfl (by kernel_rfl) (by kernel_rfl) (by kernel_rfl) (fun _ _ _ h => h) (.inl ⟨by rfl, ?_⟩) (by assumption) ?_
  rotate_left 1
  · intro w0 hSw
    go_simp <;> with_reducible rfl
  try simp only [Act.put, zq1, zq2, zq3, zq4, zq5, zq6]
  refine wpAnyH_take (i := 8) (v := ?_) rfl (by kernel_rfl) (by kernel_rfl) (by kernel_rfl) (fun _ _ _ h => h) (.inl ⟨by rfl, ?_⟩) (by assumption) ?_
  rotate_left 1
  · intro w0 hSw
    go_simp <;> with_reducible rfl
  try simp only [Act.put, zq1, zq2, zq3, zq4, zq5, zq6]
  refine wpAnyH_take (i := 9) (v := ?_) rfl (by kernel_rfl) (by kernel_rfl) (by kernel_rfl) (fun _ _ _ h => h) (.inl ⟨by rfl, ?_⟩) (by assumption) ?_
  rotate_left 1
  · intro w0 hSw
    go_simp <;> with_reducible rfl
  try simp only [Act.put, zq1, zq2, zq3, zq4, zq5, zq6]
  refine wpAnyH_take (i := 10) (v := ?_) rfl (by kernel_rfl) (by kernel_rfl) (by kernel_rfl) (fun _ _ _ h => h) (.inl ⟨by rfl, ?_⟩) (by assumption) ?_
  rotate_left 1
  · intro w0 hSw
    have z0 := hSw
    go_simp <;> with_reducible rfl
  try simp only [Act.put, zq1, zq2, zq3, zq4, zq5, zq6]
  refine wpAnyH_ready (rs := [11]) (by kernel_rfl) (by simp) ?_
  refine AllReadyH.cons rfl (fun K hK => ?_) AllReadyH.nil
  go_simp
  go_at_call 56
  refine (HCM.out _).mono ?_
  rintro e w1 ⟨rfl, hb1⟩
  have HB1 := Lib.hid (HB0.out.trans ((Below.refl _ _).drew.trans hb1 |>.mono HB0.out.size))
  have HX1 := Lib.hid ((HX0.out.kept rfl : HasCells w0.drew _ _ 49).after hb1)
  have HP1 := Lib.hid ((HP0.out.kept rfl : HasCells w0.drew _ _ 41).after hb1)
  clear hb1 HB0 HX0 HP0
  refine hK.out _ _ ((HC.out _ HB1.out).1) (fun hHeld => ?_)
  clear hK K
  try simp only [Act.put, zq1, zq2, zq3, zq4, zq5, zq6]
  refine wpAnyH_take (i := 12) (v := ?_) rfl (by kernel_rfl) (by kernel_rfl) (by kernel_rfl) (fun _ _ _ h => h) (.inl ⟨by rfl, ?_⟩) (by assumption) ?_
  rotate_left 1
  · intro w0 hSw
    go_simp <;> with_reducible rfl
  try simp only [Act.put, zq1, zq2, zq3, zq4, zq5, zq6]
  refine wpAnyH_done (by kernel_rfl) ?_ 0
  go_wp2_with fail
  refine wp_region_held_drew (S := (fun W => W.cell? ⟨w.heap.size + 1, 0, none⟩ = some (.pointer (some ⟨w.heap.size, 0, none⟩)) ∧ W.cell? ⟨bk, ob, none⟩ = some (.string ⟨pt.toArray⟩) ∧ W.cell? ⟨bk, ob + 1, none⟩ = some (.string ⟨vl.toArray⟩))) (by kernel_rfl) (⟨(HP1.out.kept rfl : HasCells w1.drew _ _ 41).cell (j := 0) rfl, HC.out _ HB1.out.drew⟩) (fun hHeld => ?_)
  refine wpAnyH_take (i := 0) (v := ?_) rfl (by kernel_rfl) (by kernel_rfl) (by kernel_rfl) (fun _ _ _ h => h) (.inl ⟨by rfl, ?_⟩) (by assumption) ?_
  rotate_left 1
  · intro w0 hSw
    obtain ⟨z0, z1, z2⟩ := hSw
    go_simp <;> with_reducible rfl
  try simp only [Act.put, zq1, zq2, zq4, zq5, zq6]
  refine wpAnyH_take (i := 1) (v := ?_) rfl (by kernel_rfl) (by kernel_rfl) (by kernel_rfl) (fun _ _ _ h => h) (.inl ⟨by rfl, ?_⟩) (by assumption) ?_
  rotate_left 1
  · intro w0 hSw
    go_simp <;> with_reducible rfl
  try simp only [Act.put, zq1, zq2, zq3, zq4, zq5, zq6]
  refine wpAnyH_take (i := 2) (v := ?_) rfl (by kernel_rfl) (by kernel_rfl) (by kernel_rfl) (fun _ _ _ h => h) (.inl ⟨by rfl, ?_⟩) (by assumption) ?_
  rotate_left 1
  · intro w0 hSw
    go_simp <;> with_reducible rfl
  try simp only [Act.put, zq1, zq2, zq3, zq4, zq5, zq6]
  refine wpAnyH_take (i := 3) (v := ?_) rfl (by kernel_rfl) (by kernel_rfl) (by kernel_rfl) (fun _ _ _ h => h) (.inl ⟨by rfl, ?_⟩) (by assumption) ?_
  rotate_left 1
  · intro w0 hSw
    go_simp <;> with_reducible rfl
  try simp only [Act.put, zq1, zq2, zq3, zq4, zq5, zq6]
  refine wpAnyH_take (i := 4) (v := ?_) rfl (by kernel_rfl) (by kernel_rfl) (by kernel_rfl) (fun _ _ _ h => h) (.inl ⟨by rfl, ?_⟩) (by assumption) ?_
  rotate_left 1
  · intro w0 hSw
    go_simp <;> with_reducible rfl
  try simp only [Act.put, zq1, zq2, zq3, zq4, zq5, zq6]
  refine wpAnyH_take (i := 5) (v := ?_) rfl (by kernel_rfl) (by kernel_rfl) (by kernel_rfl) (fun _ _ _ h => h) (.inl ⟨by rfl, ?_⟩) (by assumption) ?_
  rotate_left 1
  · intro w0 hSw
    obtain ⟨z0, z1, z2⟩ := hSw
    go_simp <;> with_reducible rfl
  try simp only [Act.put, zq1, zq2, zq3, zq4, zq5, zq6]
  refine wpAnyH_take (i := 7) (v := ?_) rfl (by kernel_rfl) (by kernel_rfl) (by kernel_rfl) (fun _ _ _ h => h) (.inl ⟨by rfl, ?_⟩) (by assumption) ?_
  rotate_left 1
  · intro w0 hSw
    go_simp <;> with_reducible rfl
  try simp only [Act.put, zq1, zq2, zq3, zq4, zq5, zq6]
  refine wpAnyH_take (i := 8) (v := ?_) rfl (by kernel_rfl) (by kernel_rfl) (by kernel_rfl) (fun _ _ _ h => h) (.inl ⟨by rfl, ?_⟩) (by assumption) ?_
  rotate_left 1
  · intro w0 hSw
    go_simp <;> with_reducible rfl
  try simp only [Act.put, zq1, zq2, zq3, zq4, zq5, zq6]
  refine wpAnyH_take (i := 9) (v := ?_) rfl (by kernel_rfl) (by kernel_rfl) (by kernel_rfl) (fun _ _ _ h => h) (.inl ⟨by rfl, ?_⟩) (by assumption) ?_
  rotate_left 1
  · intro w0 hSw
    go_simp <;> with_reducible rfl
  try simp only [Act.put, zq1, zq2, zq3, zq4, zq5, zq6]
  refine wpAnyH_take (i := 10) (v := ?_) rfl (by kernel_rfl) (by kernel_rfl) (by kernel_rfl) (fun _ _ _ h => h) (.inl ⟨by rfl, ?_⟩) (by assumption) ?_
  rotate_left 1
  · intro w0 hSw
    obtain ⟨z0, z1, z2⟩ := hSw
    go_simp <;> with_reducible rfl
  try simp only [Act.put, zq1, zq2, zq3, zq4, zq5, zq6]
  refine wpAnyH_ready (rs := [6]) (by kernel_rfl) (by simp) ?_
  refine AllReadyH.cons rfl (fun K hK => ?_) AllReadyH.nil
  go_simp
  go_at_call 54
  refine (HF.out _).mono ?_
  rintro e w2 ⟨rfl, hb⟩
  have HS2 := Lib.hid (show Below w1.heap.size w1 w2 from ((Below.refl _ _).drew.trans hb))
  have HB2 := Lib.hid (HB1.out.trans (HS2.out.mono HB1.out.size))
  have HX2 := Lib.hid (HX1.out.after HS2.out)
  have HP2 := Lib.hid (HP1.out.after HS2.out)
  clear hb
  refine hK.out _ _ (⟨HP2.out.cell (j := 0) rfl, HC.out _ HB2.out⟩) (fun hHeld => ?_)
  clear hK K
  try simp only [Act.put, zq1, zq2, zq3, zq4, zq5, zq6]
  refine wpAnyH_ready (rs := [11]) (by kernel_rfl) (by simp) ?_
  refine AllReadyH.cons rfl (fun K hK => ?_) AllReadyH.nil
  go_simp
  go_at_call 26
  refine (HT.out _).mono ?_
  rintro e w3 ⟨rfl, hb⟩
  have HS3 := Lib.hid (show Below w2.heap.size w2 w3 from hb)
  have HB3 := Lib.hid (HB2.out.trans (HS3.out.mono HB2.out.size))
  have HX3 := Lib.hid (HX2.out.after HS3.out)
  have HP3 := Lib.hid (HP2.out.after HS3.out)
  clear hb
  refine hK.out _ _ (⟨HP3.out.cell (j := 0) rfl, HC.out _ HB3.out⟩) (fun hHeld => ?_)
  clear hK K
  try simp only [Act.put, zq1, zq2, zq3, zq4, zq5, zq6]
  refine wpAnyH_ready (rs := [12]) (by kernel_rfl) (by simp) ?_
  refine AllReadyH.cons rfl (fun K hK => ?_) AllReadyH.nil
  go_simp
  obtain ⟨w4, hal⟩ : ∃ W, w3.alloc (.cells #[.bool false, .string ⟨fm.toArray⟩, .slice none 0 0, .bool false, .string ⟨vl.toArray⟩, .slice none 0 0] 46) = W := ⟨_, rfl⟩
  have hb : Below w3.heap.size w3 w4 := by rw [← hal]; exact laid1 w3 _
  have HR4 := Lib.hid (show RIn w4 (w.heap.size + 1) (.slice (some ⟨w3.heap.size, 0, none⟩) 2 2) [txtI fm, txtI vl] from by
    rw [← hal]
    refine reads_new w3 (w.heap.size + 1) 2 [(txtI fm, .slice none 0 0), (txtI vl, .slice none 0 0)] rfl (Nat.le_of_lt HP3.out.lt) (fun x hx => ?_)
    simp only [List.mem_cons, List.not_mem_nil, or_false] at hx
    rcases hx with rfl | rfl
    · exact RIn.nil _ _
    · exact RIn.nil _ _)
  rw [hal]
  clear hal
  have HS4 := Lib.hid (show Below w3.heap.size w3 w4 from hb)
  have HB4 := Lib.hid (HB3.out.trans (HS4.out.mono HB3.out.size))
  have HX4 := Lib.hid (HX3.out.after HS4.out)
  have HP4 := Lib.hid (HP3.out.after HS4.out)
  clear hb
  refine hK.out _ _ (⟨HP4.out.cell (j := 0) rfl, HC.out _ HB4.out⟩) (fun hHeld => ?_)
  clear hK K
  try simp only [Act.put, zq1, zq2, zq3, zq4, zq5, zq6]
  refine wpAnyH_ready (rs := [13]) (by kernel_rfl) (by simp) ?_
  refine AllReadyH.cons rfl (fun K hK => ?_) AllReadyH.nil
  go_simp
  go_at_call 57
  refine (list_any _ _ _ _).mono ?_
  rintro e w5 ⟨rfl, hb⟩
  have HR5 := Lib.hid (RIn.below HR4.out hb)
  have HS5 := Lib.hid (show Below w4.heap.size w4 w5 from hb)
  have HB5 := Lib.hid (HB4.out.trans (HS5.out.mono HB4.out.size))
  have HX5 := Lib.hid (HX4.out.after HS5.out)
  have HP5 := Lib.hid (HP4.out.after HS5.out)
  clear hb
  refine hK.out _ _ (⟨HP5.out.cell (j := 0) rfl, HC.out _ HB5.out⟩) (fun hHeld => ?_)
  clear hK K
  try simp only [Act.put, zq1, zq2, zq3, zq4, zq5, zq6]
  refine wpAnyH_take (i := 14) (v := ?_) rfl (by kernel_rfl) (by kernel_rfl) (by kernel_rfl) (fun _ _ _ h => h) (.inl ⟨by rfl, ?_⟩) (by assumption) ?_
  rotate_left 1
  · intro w0 hSw
    go_simp <;> with_reducible rfl
  try simp only [Act.put, zq1, zq2, zq3, zq4, zq5, zq6]
  refine wpAnyH_take (i := 15) (v := ?_) rfl (by kernel_rfl) (by kernel_rfl) (by kernel_rfl) (fun _ _ _ h => h) (.inl ⟨by rfl, ?_⟩) (by assumption) ?_
  rotate_left 1
  · intro w0 hSw
    go_simp <;> with_reducible rfl
  try simp only [Act.put, zq1, zq2, zq3, zq4, zq5, zq6]
  refine wpAnyH_ready (rs := [16]) (by kernel_rfl) (by simp) ?_
  refine AllReadyH.cons rfl (fun K hK => ?_) AllReadyH.nil
  go_simp
  have e0 := HX5.out.cell (j := 0) rfl
  have e1 := HX5.out.cell (j := 1) rfl
  have e2 := HX5.out.cell (j := 2) rfl
  have f0 := HX5.out.frozen 0
  have f1 := HX5.out.frozen 1
  have f2 := HX5.out.frozen 2
  go_simp
  obtain ⟨w6, hst⟩ : ∃ W, ((w5.setCell ⟨w.heap.size, 0, none⟩ (.bool true)).setCell ⟨w.heap.size, 1, none⟩ (.string ⟨#[]⟩)).setCell ⟨w.heap.size, 2, none⟩ (.slice (some ⟨w3.heap.size, 0, none⟩) 2 2) = W := ⟨_, rfl⟩
  rw [hst]
  have HX6 := Lib.hid (show HasCells w6 w.heap.size _ 49 from hst ▸ ((HX5.out.set 0 (.bool true)).set 1 (.string ⟨#[]⟩)).set 2 (.slice (some ⟨w3.heap.size, 0, none⟩) 2 2))
  have HP6 := Lib.hid (show HasCells w6 (w.heap.size + 1) _ 41 from hst ▸ ((HP5.out.setOther (by omega) _).setOther (by omega) _).setOther (by omega) _)
  have HB6 := Lib.hid (show Below w.heap.size w w6 from hst ▸ three_low HB5.out (Nat.le_refl _) 0 1 2 _ _ _)
  have HR6 := Lib.hid (show RIn w6 (w.heap.size + 1) (.slice (some ⟨w3.heap.size, 0, none⟩) 2 2) [txtI fm, txtI vl] from by
    rw [← hst]
    exact three_reads HR5.out _ _ _)
  clear hst e0 e1 e2 f0 f1 f2
  refine hK.out _ _ (⟨HP6.out.cell (j := 0) rfl, HC.out _ HB6.out⟩) (fun hHeld => ?_)
  clear hK K
  try simp only [Act.put, zq1, zq2, zq3, zq4, zq5, zq6]
  refine wpAnyH_done (by kernel_rfl) ?_ 0
  go_wp2_with fail
  refine wp_region_held_drew (S := (fun W => W.cell? ⟨w.heap.size + 1, 0, none⟩ = some (.pointer (some ⟨w.heap.size, 0, none⟩)) ∧ W.cell? ⟨w.heap.size, 0, none⟩ = some (.bool true) ∧ W.cell? ⟨w.heap.size, 1, none⟩ = some (.string ⟨#[]⟩) ∧ W.cell? ⟨w.heap.size, 2, none⟩ = some (.slice (some ⟨w3.heap.size, 0, none⟩) 2 2))) (by kernel_rfl) (⟨(HP6.out.kept rfl : HasCells w6.drew _ _ 41).cell (j := 0) rfl, (HX6.out.kept rfl : HasCells w6.drew _ _ 49).cell (j := 0) rfl, (HX6.out.kept rfl : HasCells w6.drew _ _ 49).cell (j := 1) rfl, (HX6.out.kept rfl : HasCells w6.drew _ _ 49).cell (j := 2) rfl⟩) (fun hHeld => ?_)
  refine wpAnyH_take (i := 0) (v := ?_) rfl (by kernel_rfl) (by kernel_rfl) (by kernel_rfl) (fun _ _ _ h => h) (.inl ⟨by rfl, ?_⟩) (by assumption) ?_
  rotate_left 1
  · intro w0 hSw
    obtain ⟨z0, z1, z2, z3⟩ := hSw
    go_simp <;> with_reducible rfl
  try simp only [Act.put, zq1, zq2, zq4, zq5, zq6]
  refine wpAnyH_take (i := 1) (v := ?_) rfl (by kernel_rfl) (by kernel_rfl) (by kernel_rfl) (fun _ _ _ h => h) (.inl ⟨by rfl, ?_⟩) (by assumption) ?_
  rotate_left 1
  · intro w0 hSw
    obtain ⟨z0, z1, z2, z3⟩ := hSw
    go_simp <;> with_reducible rfl
  try simp only [Act.put, zq1, zq2, zq3, zq4, zq5, zq6]
  refine wpAnyH_take (i := 2) (v := ?_) rfl (by kernel_rfl) (by kernel_rfl) (by kernel_rfl) (fun _ _ _ h => h) (.inl ⟨by rfl, ?_⟩) (by assumption) ?_
  rotate_left 1
  · intro w0 hSw
    go_simp <;> with_reducible rfl
  try simp only [Act.put, zq1, zq2, zq3, zq4, zq5, zq6]
  refine wpAnyH_take (i := 3) (v := ?_) rfl (by kernel_rfl) (by kernel_rfl) (by kernel_rfl) (fun _ _ _ h => h) (.inl ⟨by rfl, ?_⟩) (by assumption) ?_
  rotate_left 1
  · intro w0 hSw
    go_simp <;> with_reducible rfl
  try simp only [Act.put, zq1, zq2, zq3, zq4, zq5, zq6]
  refine wpAnyH_take (i := 4) (v := ?_) rfl (by kernel_rfl) (by kernel_rfl) (by kernel_rfl) (fun _ _ _ h => h) (.inl ⟨by rfl, ?_⟩) (by assumption) ?_
  rotate_left 1
  · intro w0 hSw
    obtain ⟨z0, z1, z2, z3⟩ := hSw
    go_simp <;> with_reducible rfl
  try simp only [Act.put, zq1, zq2, zq3, zq4, zq5, zq6]
  refine wpAnyH_ready (rs := [5]) (by kernel_rfl) (by simp) ?_
  refine AllReadyH.cons rfl (fun K hK => ?_) AllReadyH.nil
  go_simp
  go_at_call 61
  refine (HE.out _ _ (RIn.reads (RIn.below HR6.out ((Below.refl _ _).drew)))).mono ?_
  rintro e v1 ⟨rfl, hb⟩
  have HBa := Lib.hid (HB6.out.trans ((Below.refl _ _).drew.trans hb |>.mono HB6.out.size))
  have HSa := Lib.hid (show Below w6.heap.size w6 v1 from (Below.refl _ _).drew.trans hb)
  have HXa := Lib.hid (HX6.out.after HSa.out)
  have HPa := Lib.hid (HP6.out.after HSa.out)
  clear hb
  refine hK.out _ _ (⟨HPa.out.cell (j := 0) rfl, HXa.out.cell (j := 0) rfl, HXa.out.cell (j := 1) rfl, HXa.out.cell (j := 2) rfl⟩) (fun hHeld => ?_)
  clear hK K
  try simp only [Act.put, zq1, zq2, zq3, zq4, zq5, zq6]
  refine wpAnyH_take (i := 6) (v := ?_) rfl (by kernel_rfl) (by kernel_rfl) (by kernel_rfl) (fun _ _ _ h => h) (.inl ⟨by rfl, ?_⟩) (by assumption) ?_
  rotate_left 1
  · intro w0 hSw
    go_simp <;> with_reducible rfl
  try simp only [Act.put, zq1, zq2, zq3, zq4, zq5, zq6]
  refine wpAnyH_take (i := 7) (v := ?_) rfl (by kernel_rfl) (by kernel_rfl) (by kernel_rfl) (fun _ _ _ h => h) (.inl ⟨by rfl, ?_⟩) (by assumption) ?_
  rotate_left 1
  · intro w0 hSw
    go_simp <;> with_reducible rfl
  try simp only [Act.put, zq1, zq2, zq3, zq4, zq5, zq6]
  refine wpAnyH_take (i := 8) (v := ?_) rfl (by kernel_rfl) (by kernel_rfl) (by kernel_rfl) (fun _ _ _ h => h) (.inl ⟨by rfl, ?_⟩) (by assumption) ?_
  rotate_left 1
  · intro w0 hSw
    go_simp <;> with_reducible rfl
  try simp only [Act.put, zq1, zq2, zq3, zq4, zq5, zq6]
  refine wpAnyH_take (i := 9) (v := ?_) rfl (by kernel_rfl) (by kernel_rfl) (by kernel_rfl) (fun _ _ _ h => h) (.inl ⟨by rfl, ?_⟩) (by assumption) ?_
  rotate_left 1
  · intro w0 hSw
    go_simp <;> with_reducible rfl
  try simp only [Act.put, zq1, zq2, zq3, zq4, zq5, zq6]
  refine wpAnyH_take (i := 10) (v := ?_) rfl (by kernel_rfl) (by kernel_rfl) (by kernel_rfl) (fun _ _ _ h => h) (.inl ⟨by rfl, ?_⟩) (by assumption) ?_
  rotate_left 1
  · intro w0 hSw
    go_simp <;> with_reducible rfl
  try simp only [Act.put, zq1, zq2, zq3, zq4, zq5, zq6]
  have e3 := HXa.out.cell (j := 3) rfl
  have f3 := HXa.out.frozen 3
  refine wpAnyH_ready (rs := [11]) (by kernel_rfl) (by simp) ?_
  refine AllReadyH.cons rfl (fun K hK => ?_) AllReadyH.nil
  go_simp
  obtain ⟨v2, hv2⟩ : ∃ W, v1.setCell ⟨w.heap.size, 3, none⟩ (.string ⟨by_.toArray⟩) = W := ⟨_, rfl⟩
  rw [hv2]
  have HXb := Lib.hid (show HasCells v2 _ _ 49 from hv2 ▸ HXa.out.set 3 (.string ⟨by_.toArray⟩))
  have HPb := Lib.hid (show HasCells v2 _ _ 41 from hv2 ▸ HPa.out.setOther (by omega) _)
  have HVb := Lib.hid hv2
  clear hv2 e3 f3
  refine hK.out _ _ (⟨HPb.out.cell (j := 0) rfl, HXb.out.cell (j := 0) rfl, HXb.out.cell (j := 1) rfl, HXb.out.cell (j := 2) rfl⟩) (fun hHeld => ?_)
  clear hK K
  try simp only [Act.put, zq1, zq2, zq3, zq4, zq5, zq6]
  refine wpAnyH_done (by kernel_rfl) ?_ 0
  have p0 := HPb.out.cell (j := 0) rfl
  go_wp2
  go_ret
  have HBb := Lib.hid (show Below w.heap.size w v2 from HVb.out ▸ HBa.out.setCell (p := ⟨w.heap.size, 3, none⟩) (Nat.le_refl _) _)
  have HRb := Lib.hid (show RIn v2 (w.heap.size + 1) (.slice (some ⟨w3.heap.size, 0, none⟩) 2 2) [txtI fm, txtI vl] from HVb.out ▸ RIn.store (RIn.below HR6.out HSa.out) (Nat.lt_succ_self _) _)
  refine ⟨w.heap.size, rfl, ⟨.slice (some ⟨w3.heap.size, 0, none⟩) 2 2, .slice none 0 0, .slice none 0 0, [], ⟨Nat.le_refl _, HXb.out.lt⟩, by rw [HX.out, HBY.out]; exact HXb.out, by rw [HX.out]; exact RIn.mono HRb.out (Nat.le_succ _), ⟨none, 0, rfl, .inl rfl⟩, ⟨none, 0, rfl, .inl rfl⟩, rfl, fun j k hk => (by simp [kidsP] at hk)⟩, HBb.out⟩
end Go.Proofs.YthicdhnjincflaaGreatDoor

namespace Go.Proofs.YthicdhnjincflaaGreatDoor
open Go.RowKit Go.Shelf Go.Lib
attribute [local go_sem] Oper.semAt_some
theorem NodeAt.opened {f : Nat} {A : Nat → Prop} {w : World} {ps : List PairD} {d g : Nat} (h : NodeAt f A w ps d g) : A g ∧ ∃ u vl vn,
    HasCells w g [.bool (nodeP keccakL f ps d).isList, .string ⟨(nodeP keccakL f ps d).text.toArray⟩, u, .string ⟨(bytesP keccakL f ps d).toArray⟩, vl, vn] 49 ∧ ReadsIn w A u (nodeP keccakL f ps d).list := by
  cases f with
  | zero => exact h.elim
  | succ f =>
    obtain ⟨u, vl, vn, ptrs, h0, h1, h2, _⟩ := h
    exact ⟨h0, u, vl, vn, h1, h2⟩
structure KidsAt (B K0 f : Nat) (A : Nat → Prop) (W : World) (ul un : Value) (LL : List ByteArray) (PP : List Nat) (kids : List (List PairD × Nat)) : Prop where
  l : OwnS B W ul LL
  n : OwnN B W un PP
  len : PP.length = kids.length
  kid : ∀ (j : Nat) k, kids[j]? = some k → ∃ gk, PP[j]? = some gk ∧ NodeAt f A W k.1 k.2 gk
  foot : ∀ g, A g → K0 ≤ g ∧ g < W.heap.size ∧ ul.ownBlock ≠ some g ∧ un.ownBlock ≠ some g
  lo : ∀ k, ul.ownBlock = some k → K0 ≤ k
  no : ∀ k, un.ownBlock = some k → K0 ≤ k
  sep : ∀ k, ul.ownBlock = some k → un.ownBlock ≠ some k
theorem KidsAt.start (B K0 f : Nat) (W : World) : KidsAt B K0 f (fun _ => False) W (.slice none 0 0) (.slice none 0 0) [] [] [] :=
  ⟨OwnS.nil _ _, OwnN.nil _ _, rfl, fun j k h => (by simp at h), fun _ h => h.elim, fun _ h => (by cases h), fun _ h => (by cases h), fun _ h => (by cases h)⟩
theorem KidsAt.kept {B K0 f : Nat} {A : Nat → Prop} {W W' : World} {ul un : Value} {LL : List ByteArray} {PP : List Nat} {kids : List (List PairD × Nat)} (h : KidsAt B K0 f A W ul un LL PP kids)
    (hb : ∀ g, K0 ≤ g → g < W.heap.size → W'.heap[g]? = W.heap[g]?) (hs : W.heap.size ≤ W'.heap.size) : KidsAt B K0 f A W' ul un LL PP kids :=
  ⟨h.l.of_block (fun k e => hb k (h.lo k e) (h.l.lt k e).2), h.n.of_block (fun k e => hb k (h.no k e) (h.n.lt k e).2), h.len,
    fun j k hk => by obtain ⟨gk, h1, h2⟩ := h.kid j k hk; exact ⟨gk, h1, h2.kept (fun g hg => hb g (h.foot g hg).1 (h.foot g hg).2.1) (fun _ h => h)⟩,
    fun g hg => ⟨(h.foot g hg).1, Nat.lt_of_lt_of_le (h.foot g hg).2.1 hs, (h.foot g hg).2.2⟩, h.lo, h.no, h.sep⟩
theorem KidsAt.after {B K0 f : Nat} {A : Nat → Prop} {W W' : World} {ul un : Value} {LL : List ByteArray} {PP : List Nat} {kids : List (List PairD × Nat)} (h : KidsAt B K0 f A W ul un LL PP kids) (hb : Below W.heap.size W W') : KidsAt B K0 f A W' ul un LL PP kids :=
  h.kept (fun g _ hg => hb.block g hg) hb.size
theorem KidsAt.setLow {B K0 f : Nat} {A : Nat → Prop} {W : World} {ul un : Value} {LL : List ByteArray} {PP : List Nat} {kids : List (List PairD × Nat)} (h : KidsAt B K0 f A W ul un LL PP kids) {q : Nat} (hq : q < K0) (j : Nat) (v : Value) : KidsAt B K0 f A (W.setCell ⟨q, j, none⟩ v) ul un LL PP kids :=
  h.kept (fun g hg _ => Below.heap_setCell W ⟨q, j, none⟩ v g (fun e => by have e2 : g = q := e; omega)) (by simp)
theorem KidsAt.more {B K0 f gx g d : Nat} {A : Nat → Prop} {W0 W W' : World} {ul un ul' un' : Value} {LL LL' : List ByteArray} {PP : List Nat} {kids : List (List PairD × Nat)} {qs : List PairD} (h : KidsAt B K0 f A W0 ul un LL PP kids) (hbl : Below W0.heap.size W0 W) (hK : K0 ≤ W0.heap.size) (hx : gx < K0)
    (hkid : NodeAt f (fun k => W0.heap.size ≤ k ∧ k < W.heap.size) W qs d g) (ho : OwnS B W' ul' LL') (hn : OwnN B W' un' (PP ++ [g])) (hs : W.heap.size ≤ W'.heap.size)
    (hfr : ∀ k, k < W.heap.size → k ≠ gx → ul.ownBlock ≠ some k → un.ownBlock ≠ some k → W'.heap[k]? = W.heap[k]?)
    (h1 : ul'.ownBlock = ul.ownBlock ∨ ∀ k, ul'.ownBlock = some k → W.heap.size ≤ k) (h2 : un'.ownBlock = un.ownBlock ∨ ∀ k, un'.ownBlock = some k → W.heap.size ≤ k) (h3 : ∀ k, ul'.ownBlock = some k → un'.ownBlock ≠ some k) :
    KidsAt B K0 f (fun k => A k ∨ (W0.heap.size ≤ k ∧ k < W.heap.size)) W' ul' un' LL' (PP ++ [g]) (kids ++ [(qs, d)]) := by
  have hz := hbl.size
  have ea : ∀ k, A k → W'.heap[k]? = W0.heap[k]? := fun k hk => by
    obtain ⟨f1, f2, f3, f4⟩ := h.foot k hk
    exact (hfr k (by omega) (by omega) f3 f4).trans (hbl.block k f2)
  have eb : ∀ k, (W0.heap.size ≤ k ∧ k < W.heap.size) → W'.heap[k]? = W.heap[k]? := fun k hk =>
    hfr k hk.2 (by omega) (fun e => by have := (h.l.lt k e).2; omega) (fun e => by have := (h.n.lt k e).2; omega)
  refine ⟨ho, hn, by rw [List.length_append, List.length_append, h.len]; rfl, fun j k hk => ?_, fun k hk => ?_, fun k e => ?_, fun k e => ?_, h3⟩
  · by_cases hj : j < kids.length
    · rw [List.getElem?_append_left hj] at hk
      obtain ⟨gk, e1, e2⟩ := h.kid j k hk
      exact ⟨gk, by rw [List.getElem?_append_left (by rw [h.len]; exact hj)]; exact e1, e2.kept ea (fun _ h => .inl h)⟩
    · have hj2 : j = kids.length := by
        have := (List.getElem?_eq_some_iff.1 hk).1
        simp at this; omega
      subst hj2
      rw [List.getElem?_append_right (Nat.le_refl _), Nat.sub_self] at hk
      cases hk
      exact ⟨g, by rw [List.getElem?_append_right (by rw [h.len]; exact Nat.le_refl _), h.len, Nat.sub_self]; rfl, hkid.kept eb (fun _ h => .inr h)⟩
  · have q : ∀ (u u' : Value), (u'.ownBlock = u.ownBlock ∨ ∀ k, u'.ownBlock = some k → W.heap.size ≤ k) → k < W.heap.size → u.ownBlock ≠ some k → u'.ownBlock ≠ some k := fun u u' h4 hk2 h5 e => by
      rcases h4 with h4 | h4
      · exact h5 (h4 ▸ e)
      · have := h4 k e; omega
    rcases hk with hk | hk
    · obtain ⟨f1, f2, f3, f4⟩ := h.foot k hk
      exact ⟨f1, by omega, q ul ul' h1 (by omega) f3, q un un' h2 (by omega) f4⟩
    · exact ⟨by omega, by omega, q ul ul' h1 hk.2 (fun e => by have := (h.l.lt k e).2; omega), q un un' h2 hk.2 (fun e => by have := (h.n.lt k e).2; omega)⟩
  · rcases h1 with h1 | h1
    · exact h.lo k (h1 ▸ e)
    · have := h1 k e; omega
  · rcases h2 with h2 | h2
    · exact h.no k (h2 ▸ e)
    · have := h2 k e; omega
theorem refV_is (f : Nat) (ps : List PairD) (d : Nat) (u : Value) {W : World} {A : Nat → Prop} (hr : ReadsIn W A u (nodeP keccakL f ps d).list) :
    ∃ p n c, refV (nodeP keccakL f ps d).isList ⟨(nodeP keccakL f ps d).text.toArray⟩ u (bytesP keccakL f ps d) = .agg #[.bool (refI keccakL (nodeP keccakL f ps d)).isList, .string ⟨(refI keccakL (nodeP keccakL f ps d)).text.toArray⟩, .slice p n c] ∧ ReadsIn W A (.slice p n c) (refI keccakL (nodeP keccakL f ps d)).list := by
  unfold refV refI bytesP
  by_cases h : (encode (nodeP keccakL f ps d)).1.length < 32
  · rw [if_pos h, if_pos h]
    obtain ⟨p, c, rfl⟩ := ReadsIn.form hr
    exact ⟨p, _, c, rfl, hr⟩
  · rw [if_neg h, if_neg h]
    exact ⟨none, 0, 0, rfl, ReadsIn.nil _ _⟩
set_option maxRecDepth 100000 in
set_option maxHeartbeats 12800000 in
theorem grow_ext (f : Nat) (hG : GrowC f) (q q2 : PairD) (r : List PairD) (d : Nat) (v : Value) (w : World) (hasc : Asc (q :: q2 :: r)) (heven : Even (q :: q2 :: r) d) (hval : Valid (q :: q2 :: r) d) (hfa : Fair (q :: q2 :: r)) (hun : (q :: q2 :: r).Pairwise (fun a b => a.1 ≠ b.1)) (hlen : (q :: q2 :: r).length ≤ 1000) (hfd : 129 ≤ d + (f + 1))
    (hkt : KecT w) (hv : Pairs w v ((q :: q2 :: r).map (cutQ d))) (hn : 0 < alikeP (q :: q2 :: r) d) :
    Calls Tryz.prog 34 #[v] w fun e w' => ∃ g, e = .returned (.pointer (some ⟨g, 0, none⟩)) ∧ NodeAt (f + 1) (fun k => w.heap.size ≤ k ∧ k < w'.heap.size) w' (q :: q2 :: r) d g ∧ Below w.heap.size w w' := by
  obtain ⟨b, hfit⟩ := node_fit (K := keccakL) keccakL_length (f + 1) (q :: q2 :: r) d hval hfa hfd
  have hve := valid_ext hval
  obtain ⟨b2, hfit2⟩ := node_fit (K := keccakL) keccakL_length f (q :: q2 :: r) (d + alikeP (q :: q2 :: r) d) hve hfa (by omega)
  have HYS := Lib.hid (show (bytesP keccakL f (q :: q2 :: r) (d + alikeP (q :: q2 :: r) d)).length ≤ 1000000 from by
    unfold bytesP; rw [hfit2.encode]; have := hfit2.short; dsimp only; omega)
  have hal := asc_alike hasc heven
  have hx : nodeP keccakL (f + 1) (q :: q2 :: r) d = extI (((pth q).drop d).take (alikeP (q :: q2 :: r) d)) (refI keccakL (nodeP keccakL f (q :: q2 :: r) (d + alikeP (q :: q2 :: r) d))) := by rw [node_two, if_pos hn]
  have hkp : kidsP (q :: q2 :: r) d = [(((pth q).drop d).take (alikeP (q :: q2 :: r) d), q :: q2 :: r, d + alikeP (q :: q2 :: r) d)] := by unfold kidsP; dsimp only; rw [if_pos hn]
  have hee := even_ext heven
  have hql := (hval.2 q List.mem_cons_self).2
  have hll := List.getLast_mem (l := q :: q2 :: r) (by simp)
  have hcut : ∀ x ∈ (q :: q2 :: r).map (cutQ d), alikeP (q :: q2 :: r) d ≤ x.1.length := fun x hx => by
    obtain ⟨y, hy, rfl⟩ := List.mem_map.1 hx
    have := alike_len (d := d) hy
    show _ ≤ ((pth y).drop d).length
    rw [List.length_drop]; exact this
  obtain ⟨qz, hqz⟩ : ∃ z, (q :: q2 :: r).getLast (by simp) = z := ⟨_, rfl⟩
  rw [hqz] at hal hll
  have hzl := (hval.2 qz hll).2
  have hlast : (q :: q2 :: r)[(q :: q2 :: r).length - 1]? = some qz := by rw [← hqz, ← List.getLast?_eq_getElem?]; exact List.getLast?_eq_some_getLast _
  obtain ⟨pt, hpt⟩ : ∃ p, (pth q).drop d = p := ⟨_, rfl⟩
  obtain ⟨pz, hpz⟩ : ∃ p, (pth qz).drop d = p := ⟨_, rfl⟩
  have hpl : pt.length ≤ 128 := by rw [← hpt, List.length_drop]; omega
  have hpzl : pz.length ≤ 128 := by rw [← hpz, List.length_drop]; omega
  have hal0 := alike_len (d := d) (x := q) (ps := q :: q2 :: r) List.mem_cons_self
  have hpd : (pth q).length - d = pt.length := by rw [← hpt, List.length_drop]
  rw [hpd] at hal0
  rw [hpt, hpz] at hal
  rw [hpt] at hx hkp
  obtain ⟨n, hne⟩ : ∃ n, alikeP (q :: q2 :: r) d = n := ⟨_, rfl⟩
  rw [hne] at hn hx hkp hee hve hcut hal hal0 HYS
  obtain ⟨ps, hps⟩ : ∃ ps, q :: q2 :: r = ps := ⟨_, rfl⟩
  have hcl := hv.cells (by simp)
  rw [hps] at hasc heven hval hfa hun hlen hv hx hkp hee hve hcut hlast HYS hcl ⊢
  obtain ⟨bk, ob, c, hvv, hcc, hbk, hcl⟩ := hcl
  rw [List.length_map] at hvv hcc
  have hl2 : 2 ≤ ps.length := by rw [← hps]; simp
  obtain ⟨l1, hl1⟩ : ∃ l1, ps.length = l1 + 1 := ⟨ps.length - 1, by omega⟩
  have c0 := (hcl 0 (cutQ d q) (by rw [← hps]; rfl)).1
  rw [Nat.zero_mul, Nat.add_zero] at c0
  have c1 := (hcl l1 (cutQ d qz) (by rw [List.getElem?_map, show l1 = ps.length - 1 by omega, hlast]; rfl)).1
  rw [show (cutQ d q).1 = pt from hpt] at c0
  rw [show (cutQ d qz).1 = pz from hpz] at c1
  have HC := Lib.hid (fun W (hb : Below w.heap.size w W) => (show W.cell? ⟨bk, ob, none⟩ = some (.string ⟨pt.toArray⟩) ∧ W.cell? ⟨bk, ob + l1 * 2, none⟩ = some (.string ⟨pz.toArray⟩) from
    ⟨(hb.cell (p := ⟨bk, ob, none⟩) hbk).trans c0, (hb.cell (p := ⟨bk, ob + l1 * 2, none⟩) hbk).trans c1⟩))
  have HBE := Lib.hid (fun W (hb : Below w.heap.size w W) => behind_any (ps.map (cutQ d)) n v W (hv.after hb) (by rw [List.length_map]; omega) hcut)
  rw [hvv, List.length_map, List.map_map, show (cutF n ∘ cutQ d) = cutQ (d + n) from funext fun x => cutQ_cut d n x] at HBE
  have HGR := Lib.hid (fun V W (hb : Below w.heap.size w W) (hp : Pairs W V (ps.map (cutQ (d + n)))) => hG ps (d + n) V W hasc hee hve hfa hun hlen (by omega) (hkt.belowP hb) hp)
  have HKT := Lib.hid (fun W (hb : Below w.heap.size w W) => hkt.belowP hb)
  have HCM := Lib.hid (fun W => common_any ⟨pt.toArray⟩ ⟨pz.toArray⟩ W (by show pt.length ≤ _; omega) (by show pz.length ≤ _; omega))
  rw [show common (⟨pt.toArray⟩ : ByteArray).data.toList (⟨pz.toArray⟩ : ByteArray).data.toList = n from hal.symm] at HCM
  obtain ⟨pd, hpd2⟩ : ∃ p, pt.take n = p := ⟨_, rfl⟩
  have HXT := Lib.hid (show (⟨pt.toArray⟩ : ByteArray).extract 0 n = ⟨pd.toArray⟩ from hpd2 ▸ extract_bt pt n)
  have hpdl : pd.length ≤ 128 := by rw [← hpd2, List.length_take]; omega
  obtain ⟨fm, hfm⟩ : ∃ s, (form pd false).1 = s := ⟨_, rfl⟩
  have HF := Lib.hid (fun W => growForm_any pd false W (by omega))
  rw [hfm] at HF
  rw [hpd2] at hx hkp
  obtain ⟨rx, hrx⟩ : ∃ y, refI keccakL (nodeP keccakL f ps (d + n)) = y := ⟨_, rfl⟩
  have HRX := Lib.hid hrx
  have hx2 : nodeP keccakL (f + 1) ps d = lstI [txtI fm, rx] := by rw [hx, hrx, ← hfm]; rfl
  rw [hps, hx2] at hfit
  obtain ⟨by_, hby⟩ : ∃ p, put (lstI [txtI fm, rx]) = p := ⟨_, rfl⟩
  have HBY := Lib.hid (show bytesP keccakL (f + 1) ps d = by_ from by unfold bytesP; rw [hx2, hfit.encode, hby])
  have HX := Lib.hid hx2
  have HKP := Lib.hid hkp
  have HE := Lib.hid (encode_list hfit hby)
  have hsz : (⟨pt.toArray⟩ : ByteArray).size = pt.length := rfl
  obtain ⟨tl, htl⟩ : ∃ m, pt.length = m := ⟨_, rfl⟩
  rw [htl] at hsz hal0 hpl
  subst hvv
  have i0 : ((l1 + 1 : Nat) : Int) - 1 = (l1 : Int) := by omega
  have i1 : IntKind.i64.wrap (l1 : Int) = (l1 : Int) := by rw [IntKind.wrap_i64]; omega
  have i2 : (l1 : Int) < ((l1 + 1 : Nat) : Int) := by omega
  have i3 : (0 : Int) ≤ (l1 : Int) := by omega
  have i4 : (((l1 + 1 : Nat) : Int) == 1) = false := by simp; omega
  have i5 : (0 : Int) < (n : Int) := by omega
  have i6 : (n : Int) ≤ (tl : Int) := by omega
  have i7 : (0 : Int) ≤ (n : Int) := by omega
  obtain ⟨ln, hln⟩ : ∃ ln, l1 + 1 = ln := ⟨_, rfl⟩
  rw [hl1] at HBE ⊢
  rw [hln] at i0 i2 i4 HBE ⊢
  have i8 : ¬ ((ln : Int) = 1) := by omega
  have i9 : 0 < ln := by omega
  have i10 : l1 < ln := by omega
  clear hval hfa hfd hv hfit hfit2 hx hx2 hby hfm hcl c0 c1 hasc heven hun hlen hkt hve hee hcut hal hG hqz hll hlast hpt hpz hpd hne hps hpd2 hrx hkp htl hql hzl hln hl1 hl2
  go_enter Tryz.func34, Tryz.ntmps34
  go_wp2_with fail
  obtain ⟨w0, hw0⟩ : ∃ W, (w.alloc (.cells #[.bool false, .string ⟨#[]⟩, .slice none 0 0, .string ⟨#[]⟩, .slice none 0 0, .slice none 0 0] 49)).alloc (.cells #[.pointer (some ⟨w.heap.size, 0, none⟩)] 41) = W := ⟨_, rfl⟩
  have hb0 : Below w.heap.size w w0 := by rw [← hw0]; exact laid2 w _ _
  have hx0 : HasCells w0 w.heap.size [.bool false, .string ⟨#[]⟩, .slice none 0 0, .string ⟨#[]⟩, .slice none 0 0, .slice none 0 0] 49 := by rw [← hw0]; exact (HasCells.new w [.bool false, .string ⟨#[]⟩, .slice none 0 0, .string ⟨#[]⟩, .slice none 0 0, .slice none 0 0] 49).alloc _
  have hp0 : HasCells w0 (w.heap.size + 1) [.pointer (some ⟨w.heap.size, 0, none⟩)] 41 := by
    have h := HasCells.new (w.alloc (.cells #[.bool false, .string ⟨#[]⟩, .slice none 0 0, .string ⟨#[]⟩, .slice none 0 0, .slice none 0 0] 49)) [.pointer (some ⟨w.heap.size, 0, none⟩)] 41
    rw [World.size_alloc] at h
    rw [← hw0]
    exact h
  have HB0 := Lib.hid hb0
  have HX0 := Lib.hid hx0
  have HP0 := Lib.hid hp0
  rw [hw0]
  clear hw0 hb0 hx0 hp0
  refine wp_region_held_drew (S := (fun W => W.cell? ⟨bk, ob, none⟩ = some (.string ⟨pt.toArray⟩) ∧ W.cell? ⟨bk, ob + l1 * 2, none⟩ = some (.string ⟨pz.toArray⟩))) (by kernel_rfl) ((HC.out _ HB0.out.drew)) (fun hHeld => ?_)
  refine wpAnyH_take (i := 0) (v := ?_) rfl (by kernel_rfl) (by kernel_rfl) (by kernel_rfl) (fun _ _ _ h => h) (.inl ⟨by rfl, ?_⟩) (by assumption) ?_
  rotate_left 1
  · intro w0 hSw
    go_simp <;> with_reducible rfl
  try simp only [Act.put, zq1, zq2, zq4, zq5, zq6]
  refine wpAnyH_take (i := 1) (v := ?_) rfl (by kernel_rfl) (by kernel_rfl) (by kernel_rfl) (fun _ _ _ h => h) (.inl ⟨by rfl, ?_⟩) (by assumption) ?_
  rotate_left 1
  · intro w0 hSw
    go_simp <;> with_reducible rfl
  try simp only [Act.put, zq1, zq2, zq3, zq4, zq5, zq6]
  refine wpAnyH_take (i := 2) (v := ?_) rfl (by kernel_rfl) (by kernel_rfl) (by kernel_rfl) (fun _ _ _ h => h) (.inl ⟨by rfl, ?_⟩) (by assumption) ?_
  rotate_left 1
  · intro w0 hSw
    go_simp <;> with_reducible rfl
  try simp only [Act.put, zq1, zq2, zq3, zq4, zq5, zq6]
  refine wpAnyH_take (i := 3) (v := ?_) rfl (by kernel_rfl) (by kernel_rfl) (by kernel_rfl) (fun _ _ _ h => h) (.inl ⟨by rfl, ?_⟩) (by assumption) ?_
  rotate_left 1
  · intro w0 hSw
    obtain ⟨z0, z1⟩ := hSw
    go_simp <;> with_reducible rfl
  try simp only [Act.put, zq1, zq2, zq3, zq4, zq5, zq6]
  refine wpAnyH_take (i := 4) (v := ?_) rfl (by kernel_rfl) (by kernel_rfl) (by kernel_rfl) (fun _ _ _ h => h) (.inl ⟨by rfl, ?_⟩) (by assumption) ?_
  rotate_left 1
  · intro w0 hSw
    go_simp <;> with_reducible rfl
  try simp only [Act.put, zq1, zq2, zq3, zq4, zq5, zq6]
  refine wpAnyH_take (i := 5) (v := ?_) rfl (by kernel_rfl) (by kernel_rfl) (by kernel_rfl) (fun _ _ _ h => h) (.inl ⟨by rfl, ?_⟩) (by assumption) ?_
  rotate_left 1
  · intro w0 hSw
    go_simp <;> with_reducible rfl
  try simp only [Act.put, zq1, zq2, zq3, zq4, zq5, zq6]
  refine wpAnyH_take (i := 6) (v := ?_) rfl (by kernel_rfl) (by kernel_rfl) (by kernel_rfl) (fun _ _ _ h => h) (.inl ⟨by rfl, ?_⟩) (by assumption) ?_
  rotate_left 1
  · intro w0 hSw
    go_simp <;> with_reducible rfl
  try simp only [Act.put, zq1, zq2, zq3, zq4, zq5, zq6]
  refine wpAnyH_take (i := 7) (v := ?_) rfl (by kernel_rfl) (by kernel_rfl) (by kernel_rfl) (fun _ _ _ h => h) (.inl ⟨by rfl, ?_⟩) (by assumption) ?_
  rotate_left 1
  · intro w0 hSw
    go_simp <;> with_reducible rfl
  try simp only [Act.put, zq1, zq2, zq3, zq4, zq5, zq6]
  refine wpAnyH_take (i := 8) (v := ?_) rfl (by kernel_rfl) (by kernel_rfl) (by kernel_rfl) (fun _ _ _ h => h) (.inl ⟨by rfl, ?_⟩) (by assumption) ?_
  rotate_left 1
  · intro w0 hSw
    go_simp <;> with_reducible rfl
  try simp only [Act.put, zq1, zq2, zq3, zq4, zq5, zq6]
  refine wpAnyH_take (i := 9) (v := ?_) rfl (by kernel_rfl) (by kernel_rfl) (by kernel_rfl) (fun _ _ _ h => h) (.inl ⟨by rfl, ?_⟩) (by assumption) ?_
  rotate_left 1
  · intro w0 hSw
    go_simp <;> with_reducible rfl
  try simp only [Act.put, zq1, zq2, zq3, zq4, zq5, zq6]
  refine wpAnyH_take (i := 10) (v := ?_) rfl (by kernel_rfl) (by kernel_rfl) (by kernel_rfl) (fun _ _ _ h => h) (.inl ⟨by rfl, ?_⟩) (by assumption) ?_
  rotate_left 1
  · intro w0 hSw
    obtain ⟨z0, z1⟩ := hSw
    go_simp <;> with_reducible rfl
  try simp only [Act.put, zq1, zq2, zq3, zq4, zq5, zq6]
  refine wpAnyH_ready (rs := [11]) (by kernel_rfl) (by simp) ?_
  refine AllReadyH.cons rfl (fun K hK => ?_) AllReadyH.nil
  go_simp
  go_at_call 56
  refine (HCM.out _).mono ?_
  rintro e w1 ⟨rfl, hb1⟩
  have HB1 := Lib.hid (HB0.out.trans ((Below.refl _ _).drew.trans hb1 |>.mono HB0.out.size))
  have HX1 := Lib.hid ((HX0.out.kept rfl : HasCells w0.drew _ _ 49).after hb1)
  have HP1 := Lib.hid ((HP0.out.kept rfl : HasCells w0.drew _ _ 41).after hb1)
  clear hb1 HB0 HX0 HP0
  refine hK.out _ _ ((HC.out _ HB1.out)) (fun hHeld => ?_)
  clear hK K
  try simp only [Act.put, zq1, zq2, zq3, zq4, zq5, zq6]
  refine wpAnyH_take (i := 12) (v := ?_) rfl (by kernel_rfl) (by kernel_rfl) (by kernel_rfl) (fun _ _ _ h => h) (.inl ⟨by rfl, ?_⟩) (by assumption) ?_
  rotate_left 1
  · intro w0 hSw
    go_simp <;> with_reducible rfl
  try simp only [Act.put, zq1, zq2, zq3, zq4, zq5, zq6]
  refine wpAnyH_done (by kernel_rfl) ?_ 0
  have c0 := (HC.out _ HB1.out).1
  have c1 := (HC.out _ HB1.out).2
  go_wp2_with fail
  clear c0 c1
  rw [HXT.out]
  refine wp_region_held_drew (S := (fun W => W.cell? ⟨w.heap.size + 1, 0, none⟩ = some (.pointer (some ⟨w.heap.size, 0, none⟩)))) (by kernel_rfl) (((HP1.out.kept rfl : HasCells w1.drew _ _ 41)).cell (j := 0) rfl) (fun hHeld => ?_)
  refine wpAnyH_take (i := 0) (v := ?_) rfl (by kernel_rfl) (by kernel_rfl) (by kernel_rfl) (fun _ _ _ h => h) (.inl ⟨by rfl, ?_⟩) (by assumption) ?_
  rotate_left 1
  · intro w0 hSw
    have z0 := hSw
    go_simp <;> with_reducible rfl
  try simp only [Act.put, zq1, zq2, zq4, zq5, zq6]
  refine wpAnyH_take (i := 1) (v := ?_) rfl (by kernel_rfl) (by kernel_rfl) (by kernel_rfl) (fun _ _ _ h => h) (.inl ⟨by rfl, ?_⟩) (by assumption) ?_
  rotate_left 1
  · intro w0 hSw
    go_simp <;> with_reducible rfl
  try simp only [Act.put, zq1, zq2, zq3, zq4, zq5, zq6]
  refine wpAnyH_take (i := 2) (v := ?_) rfl (by kernel_rfl) (by kernel_rfl) (by kernel_rfl) (fun _ _ _ h => h) (.inl ⟨by rfl, ?_⟩) (by assumption) ?_
  rotate_left 1
  · intro w0 hSw
    go_simp <;> with_reducible rfl
  try simp only [Act.put, zq1, zq2, zq3, zq4, zq5, zq6]
  refine wpAnyH_take (i := 4) (v := ?_) rfl (by kernel_rfl) (by kernel_rfl) (by kernel_rfl) (fun _ _ _ h => h) (.inl ⟨by rfl, ?_⟩) (by assumption) ?_
  rotate_left 1
  · intro w0 hSw
    have z0 := hSw
    go_simp <;> with_reducible rfl
  try simp only [Act.put, zq1, zq2, zq3, zq4, zq5, zq6]
  refine wpAnyH_take (i := 5) (v := ?_) rfl (by kernel_rfl) (by kernel_rfl) (by kernel_rfl) (fun _ _ _ h => h) (.inl ⟨by rfl, ?_⟩) (by assumption) ?_
  rotate_left 1
  · intro w0 hSw
    go_simp <;> with_reducible rfl
  try simp only [Act.put, zq1, zq2, zq3, zq4, zq5, zq6]
  refine wpAnyH_take (i := 6) (v := ?_) rfl (by kernel_rfl) (by kernel_rfl) (by kernel_rfl) (fun _ _ _ h => h) (.inl ⟨by rfl, ?_⟩) (by assumption) ?_
  rotate_left 1
  · intro w0 hSw
    go_simp <;> with_reducible rfl
  try simp only [Act.put, zq1, zq2, zq3, zq4, zq5, zq6]
  refine wpAnyH_take (i := 7) (v := ?_) rfl (by kernel_rfl) (by kernel_rfl) (by kernel_rfl) (fun _ _ _ h => h) (.inl ⟨by rfl, ?_⟩) (by assumption) ?_
  rotate_left 1
  · intro w0 hSw
    go_simp <;> with_reducible rfl
  try simp only [Act.put, zq1, zq2, zq3, zq4, zq5, zq6]
  refine wpAnyH_ready (rs := [3]) (by kernel_rfl) (by simp) ?_
  refine AllReadyH.cons rfl (fun K hK => ?_) AllReadyH.nil
  go_simp
  go_at_call 54
  refine (HF.out _).mono ?_
  rintro e w2 ⟨rfl, hb⟩
  have HS2 := Lib.hid (show Below w1.heap.size w1 w2 from ((Below.refl _ _).drew.trans hb))
  have HB2 := Lib.hid (HB1.out.trans (HS2.out.mono HB1.out.size))
  have HX2 := Lib.hid (HX1.out.after HS2.out)
  have HP2 := Lib.hid (HP1.out.after HS2.out)
  clear hb
  refine hK.out _ _ (HP2.out.cell (j := 0) rfl) (fun hHeld => ?_)
  clear hK K
  try simp only [Act.put, zq1, zq2, zq3, zq4, zq5, zq6]
  refine wpAnyH_ready (rs := [8]) (by kernel_rfl) (by simp) ?_
  refine AllReadyH.cons rfl (fun K hK => ?_) AllReadyH.nil
  go_simp
  go_at_call 59
  refine (HBE.out _ HB2.out).mono ?_
  rintro e w3 ⟨bp, bc, rfl, hbf, hb⟩
  have HBF := Lib.hid hbf.pairs
  have HS3 := Lib.hid (show Below w2.heap.size w2 w3 from hb)
  have HB3 := Lib.hid (HB2.out.trans (HS3.out.mono HB2.out.size))
  have HX3 := Lib.hid (HX2.out.after HS3.out)
  have HP3 := Lib.hid (HP2.out.after HS3.out)
  clear hb
  clear hbf
  refine hK.out _ _ (HP3.out.cell (j := 0) rfl) (fun hHeld => ?_)
  clear hK K
  try simp only [Act.put, zq1, zq2, zq3, zq4, zq5, zq6]
  refine wpAnyH_ready (rs := [9]) (by kernel_rfl) (by simp) ?_
  refine AllReadyH.cons rfl (fun K hK => ?_) AllReadyH.nil
  go_simp
  go_at_call 34
  refine (HGR.out _ _ HB3.out HBF.out).mono ?_
  rintro e w4 ⟨gy, rfl, hkid, hb⟩
  have HKID := Lib.hid hkid
  have HS4 := Lib.hid (show Below w3.heap.size w3 w4 from hb)
  have HB4 := Lib.hid (HB3.out.trans (HS4.out.mono HB3.out.size))
  have HX4 := Lib.hid (HX3.out.after HS4.out)
  have HP4 := Lib.hid (HP3.out.after HS4.out)
  clear hb
  clear hkid
  refine hK.out _ _ (HP4.out.cell (j := 0) rfl) (fun hHeld => ?_)
  clear hK K
  try simp only [Act.put, zq1, zq2, zq3, zq4, zq5, zq6]
  refine wpAnyH_ready (rs := [10]) (by kernel_rfl) (by simp) ?_
  refine AllReadyH.cons rfl (fun K hK => ?_) AllReadyH.nil
  go_simp
  obtain ⟨hgA, yu, yl, yn, hyc, hyr⟩ := HKID.out.opened
  obtain ⟨rp, rn, rc, hrv, hrr⟩ := refV_is f ps (d + n) yu hyr
  rw [HRX.out] at hrv hrr
  obtain ⟨yp, yc, hyf⟩ := ReadsIn.form hyr
  have hxl := HP3.out.lt
  go_at_call 58
  refine (refer_any w.heap.size w.heap.size gy pd _ _ _ _ _ _ yl yn yu _ _ _ [] [] w4 HX4.out hyc (OwnS.nil _ _) (OwnN.nil _ _) (by omega) (fun _ h => by cases h) ⟨(fun h => by cases h), (fun h => by cases h)⟩ ⟨(fun h => by cases h), (fun h => by cases h)⟩ (Nat.le_refl _) (by simp) (by simp) HYS.out (fun W hb => HKT.out W (HB4.out.trans hb)) ⟨_, _, _, hyf⟩).mono ?_
  rintro e w5 ⟨he, ul, un, h1, h2, h3, h4, h5, h6, h7, h8, h9, h10, h11, h12⟩
  rw [hrv] at he
  subst he
  have HX5 := Lib.hid h1
  have HP5 := Lib.hid (HP4.out.kept (h7 (w.heap.size + 1) HP4.out.lt (by omega) (fun e => by cases e) (fun e => by cases e)))
  have HB5 := Lib.hid (HB4.out.trans h5)
  have HK5 := Lib.hid ((KidsAt.start w.heap.size (w.heap.size + 2) f w3).more (gx := w.heap.size) HS4.out (by omega) (by omega) HKID.out h3 h4 h6 h7 h8 h9 h10)
  have HR5 := Lib.hid (show RIn w5 (w.heap.size + 2) (.slice rp rn rc) rx.list from ReadsIn.kept hrr (fun k u o hk hc => (World.cell?_of_block (a := ⟨k, o, none⟩) (h7 k hk.2 (by omega) (fun e => by cases e) (fun e => by cases e))).trans hc) (fun k hk => ⟨by omega, by omega⟩))
  clear h1 h2 h3 h4 h5 h6 h7 h8 h9 h10 h11 h12 hgA hyc hyr hrv hrr hxl hyf
  refine hK.out _ _ (HP5.out.cell (j := 0) rfl) (fun hHeld => ?_)
  clear hK K
  try simp only [Act.put, zq1, zq2, zq3, zq4, zq5, zq6]
  refine wpAnyH_ready (rs := [11]) (by kernel_rfl) (by simp) ?_
  refine AllReadyH.cons rfl (fun K hK => ?_) AllReadyH.nil
  go_simp
  obtain ⟨w6, hal⟩ : ∃ W, w5.alloc (.cells #[.bool false, .string ⟨fm.toArray⟩, .slice none 0 0, .bool rx.isList, .string ⟨rx.text.toArray⟩, .slice rp rn rc] 46) = W := ⟨_, rfl⟩
  have hb : Below w5.heap.size w5 w6 := by rw [← hal]; exact laid1 w5 _
  have HR6 := Lib.hid (show RIn w6 (w.heap.size + 1) (.slice (some ⟨w5.heap.size, 0, none⟩) 2 2) [txtI fm, rx] from by
    rw [← hal]
    refine reads_new w5 (w.heap.size + 1) 2 [(txtI fm, .slice none 0 0), (rx, .slice rp rn rc)] rfl (Nat.le_of_lt HP5.out.lt) (fun x hx => ?_)
    simp only [List.mem_cons, List.not_mem_nil, or_false] at hx
    rcases hx with rfl | rfl
    · exact RIn.nil _ _
    · exact RIn.mono HR5.out (by omega))
  rw [hal]
  clear hal
  have HK6 := Lib.hid (HK5.out.after hb)
  have HS6 := Lib.hid (show Below w5.heap.size w5 w6 from hb)
  have HB6 := Lib.hid (HB5.out.trans (HS6.out.mono HB5.out.size))
  have HX6 := Lib.hid (HX5.out.after HS6.out)
  have HP6 := Lib.hid (HP5.out.after HS6.out)
  clear hb
  refine hK.out _ _ (HP6.out.cell (j := 0) rfl) (fun hHeld => ?_)
  clear hK K
  try simp only [Act.put, zq1, zq2, zq3, zq4, zq5, zq6]
  refine wpAnyH_ready (rs := [12]) (by kernel_rfl) (by simp) ?_
  refine AllReadyH.cons rfl (fun K hK => ?_) AllReadyH.nil
  go_simp
  go_at_call 57
  refine (list_any _ _ _ _).mono ?_
  rintro e w7 ⟨rfl, hb⟩
  have HR7 := Lib.hid (RIn.below HR6.out hb)
  have HK7 := Lib.hid (HK6.out.after hb)
  have HS7 := Lib.hid (show Below w6.heap.size w6 w7 from hb)
  have HB7 := Lib.hid (HB6.out.trans (HS7.out.mono HB6.out.size))
  have HX7 := Lib.hid (HX6.out.after HS7.out)
  have HP7 := Lib.hid (HP6.out.after HS7.out)
  clear hb
  refine hK.out _ _ (HP7.out.cell (j := 0) rfl) (fun hHeld => ?_)
  clear hK K
  try simp only [Act.put, zq1, zq2, zq3, zq4, zq5, zq6]
  refine wpAnyH_take (i := 13) (v := ?_) rfl (by kernel_rfl) (by kernel_rfl) (by kernel_rfl) (fun _ _ _ h => h) (.inl ⟨by rfl, ?_⟩) (by assumption) ?_
  rotate_left 1
  · intro w0 hSw
    go_simp <;> with_reducible rfl
  try simp only [Act.put, zq1, zq2, zq3, zq4, zq5, zq6]
  refine wpAnyH_take (i := 14) (v := ?_) rfl (by kernel_rfl) (by kernel_rfl) (by kernel_rfl) (fun _ _ _ h => h) (.inl ⟨by rfl, ?_⟩) (by assumption) ?_
  rotate_left 1
  · intro w0 hSw
    go_simp <;> with_reducible rfl
  try simp only [Act.put, zq1, zq2, zq3, zq4, zq5, zq6]
  refine wpAnyH_ready (rs := [15]) (by kernel_rfl) (by simp) ?_
  refine AllReadyH.cons rfl (fun K hK => ?_) AllReadyH.nil
  go_simp
  have e0 := HX7.out.cell (j := 0) rfl
  have e1 := HX7.out.cell (j := 1) rfl
  have e2 := HX7.out.cell (j := 2) rfl
  have f0 := HX7.out.frozen 0
  have f1 := HX7.out.frozen 1
  have f2 := HX7.out.frozen 2
  go_simp
  obtain ⟨w8, hst⟩ : ∃ W, ((w7.setCell ⟨w.heap.size, 0, none⟩ (.bool true)).setCell ⟨w.heap.size, 1, none⟩ (.string ⟨#[]⟩)).setCell ⟨w.heap.size, 2, none⟩ (.slice (some ⟨w5.heap.size, 0, none⟩) 2 2) = W := ⟨_, rfl⟩
  rw [hst]
  have HX8 := Lib.hid (show HasCells w8 w.heap.size _ 49 from hst ▸ ((HX7.out.set 0 (.bool true)).set 1 (.string ⟨#[]⟩)).set 2 (.slice (some ⟨w5.heap.size, 0, none⟩) 2 2))
  have HP8 := Lib.hid (show HasCells w8 (w.heap.size + 1) _ 41 from hst ▸ ((HP7.out.setOther (by omega) _).setOther (by omega) _).setOther (by omega) _)
  have HB8 := Lib.hid (show Below w.heap.size w w8 from hst ▸ three_low HB7.out (Nat.le_refl _) 0 1 2 _ _ _)
  have HR8 := Lib.hid (show RIn w8 (w.heap.size + 1) (.slice (some ⟨w5.heap.size, 0, none⟩) 2 2) [txtI fm, rx] from by
    rw [← hst]
    exact three_reads HR7.out _ _ _)
  have HK8 := Lib.hid (show KidsAt _ _ _ _ w8 _ _ _ _ _ from hst ▸ ((HK7.out.setLow (q := w.heap.size) (by omega) 0 (.bool true)).setLow (q := w.heap.size) (by omega) 1 (.string ⟨#[]⟩)).setLow (q := w.heap.size) (by omega) 2 (.slice (some ⟨w5.heap.size, 0, none⟩) 2 2))
  clear hst e0 e1 e2 f0 f1 f2
  refine hK.out _ _ (HP8.out.cell (j := 0) rfl) (fun hHeld => ?_)
  clear hK K
  try simp only [Act.put, zq1, zq2, zq3, zq4, zq5, zq6]
  refine wpAnyH_done (by kernel_rfl) ?_ 0
  go_wp2_with fail
  refine wp_region_held_drew (S := (fun W => W.cell? ⟨w.heap.size + 1, 0, none⟩ = some (.pointer (some ⟨w.heap.size, 0, none⟩)) ∧ W.cell? ⟨w.heap.size, 0, none⟩ = some (.bool true) ∧ W.cell? ⟨w.heap.size, 1, none⟩ = some (.string ⟨#[]⟩) ∧ W.cell? ⟨w.heap.size, 2, none⟩ = some (.slice (some ⟨w5.heap.size, 0, none⟩) 2 2))) (by kernel_rfl) (⟨(HP8.out.kept rfl : HasCells w8.drew _ _ 41).cell (j := 0) rfl, (HX8.out.kept rfl : HasCells w8.drew _ _ 49).cell (j := 0) rfl, (HX8.out.kept rfl : HasCells w8.drew _ _ 49).cell (j := 1) rfl, (HX8.out.kept rfl : HasCells w8.drew _ _ 49).cell (j := 2) rfl⟩) (fun hHeld => ?_)
  refine wpAnyH_take (i := 0) (v := ?_) rfl (by kernel_rfl) (by kernel_rfl) (by kernel_rfl) (fun _ _ _ h => h) (.inl ⟨by rfl, ?_⟩) (by assumption) ?_
  rotate_left 1
  · intro w0 hSw
    obtain ⟨z0, z1, z2, z3⟩ := hSw
    go_simp <;> with_reducible rfl
  try simp only [Act.put, zq1, zq2, zq4, zq5, zq6]
  refine wpAnyH_take (i := 1) (v := ?_) rfl (by kernel_rfl) (by kernel_rfl) (by kernel_rfl) (fun _ _ _ h => h) (.inl ⟨by rfl, ?_⟩) (by assumption) ?_
  rotate_left 1
  · intro w0 hSw
    obtain ⟨z0, z1, z2, z3⟩ := hSw
    go_simp <;> with_reducible rfl
  try simp only [Act.put, zq1, zq2, zq3, zq4, zq5, zq6]
  refine wpAnyH_take (i := 2) (v := ?_) rfl (by kernel_rfl) (by kernel_rfl) (by kernel_rfl) (fun _ _ _ h => h) (.inl ⟨by rfl, ?_⟩) (by assumption) ?_
  rotate_left 1
  · intro w0 hSw
    go_simp <;> with_reducible rfl
  try simp only [Act.put, zq1, zq2, zq3, zq4, zq5, zq6]
  refine wpAnyH_take (i := 3) (v := ?_) rfl (by kernel_rfl) (by kernel_rfl) (by kernel_rfl) (fun _ _ _ h => h) (.inl ⟨by rfl, ?_⟩) (by assumption) ?_
  rotate_left 1
  · intro w0 hSw
    go_simp <;> with_reducible rfl
  try simp only [Act.put, zq1, zq2, zq3, zq4, zq5, zq6]
  refine wpAnyH_take (i := 4) (v := ?_) rfl (by kernel_rfl) (by kernel_rfl) (by kernel_rfl) (fun _ _ _ h => h) (.inl ⟨by rfl, ?_⟩) (by assumption) ?_
  rotate_left 1
  · intro w0 hSw
    obtain ⟨z0, z1, z2, z3⟩ := hSw
    go_simp <;> with_reducible rfl
  try simp only [Act.put, zq1, zq2, zq3, zq4, zq5, zq6]
  refine wpAnyH_ready (rs := [5]) (by kernel_rfl) (by simp) ?_
  refine AllReadyH.cons rfl (fun K hK => ?_) AllReadyH.nil
  go_simp
  go_at_call 61
  refine (HE.out _ _ (RIn.reads (RIn.below HR8.out ((Below.refl _ _).drew)))).mono ?_
  rintro e v1 ⟨rfl, hb⟩
  have HBa := Lib.hid (HB8.out.trans ((Below.refl _ _).drew.trans hb |>.mono HB8.out.size))
  have HSa := Lib.hid (show Below w8.heap.size w8 v1 from (Below.refl _ _).drew.trans hb)
  have HXa := Lib.hid (HX8.out.after HSa.out)
  have HPa := Lib.hid (HP8.out.after HSa.out)
  clear hb
  refine hK.out _ _ (⟨HPa.out.cell (j := 0) rfl, HXa.out.cell (j := 0) rfl, HXa.out.cell (j := 1) rfl, HXa.out.cell (j := 2) rfl⟩) (fun hHeld => ?_)
  clear hK K
  try simp only [Act.put, zq1, zq2, zq3, zq4, zq5, zq6]
  refine wpAnyH_take (i := 6) (v := ?_) rfl (by kernel_rfl) (by kernel_rfl) (by kernel_rfl) (fun _ _ _ h => h) (.inl ⟨by rfl, ?_⟩) (by assumption) ?_
  rotate_left 1
  · intro w0 hSw
    go_simp <;> with_reducible rfl
  try simp only [Act.put, zq1, zq2, zq3, zq4, zq5, zq6]
  refine wpAnyH_take (i := 7) (v := ?_) rfl (by kernel_rfl) (by kernel_rfl) (by kernel_rfl) (fun _ _ _ h => h) (.inl ⟨by rfl, ?_⟩) (by assumption) ?_
  rotate_left 1
  · intro w0 hSw
    go_simp <;> with_reducible rfl
  try simp only [Act.put, zq1, zq2, zq3, zq4, zq5, zq6]
  refine wpAnyH_take (i := 8) (v := ?_) rfl (by kernel_rfl) (by kernel_rfl) (by kernel_rfl) (fun _ _ _ h => h) (.inl ⟨by rfl, ?_⟩) (by assumption) ?_
  rotate_left 1
  · intro w0 hSw
    go_simp <;> with_reducible rfl
  try simp only [Act.put, zq1, zq2, zq3, zq4, zq5, zq6]
  refine wpAnyH_take (i := 9) (v := ?_) rfl (by kernel_rfl) (by kernel_rfl) (by kernel_rfl) (fun _ _ _ h => h) (.inl ⟨by rfl, ?_⟩) (by assumption) ?_
  rotate_left 1
  · intro w0 hSw
    go_simp <;> with_reducible rfl
  try simp only [Act.put, zq1, zq2, zq3, zq4, zq5, zq6]
  refine wpAnyH_take (i := 10) (v := ?_) rfl (by kernel_rfl) (by kernel_rfl) (by kernel_rfl) (fun _ _ _ h => h) (.inl ⟨by rfl, ?_⟩) (by assumption) ?_
  rotate_left 1
  · intro w0 hSw
    go_simp <;> with_reducible rfl
  try simp only [Act.put, zq1, zq2, zq3, zq4, zq5, zq6]
  have e3 := HXa.out.cell (j := 3) rfl
  have f3 := HXa.out.frozen 3
  refine wpAnyH_ready (rs := [11]) (by kernel_rfl) (by simp) ?_
  refine AllReadyH.cons rfl (fun K hK => ?_) AllReadyH.nil
  go_simp
  obtain ⟨v2, hv2⟩ : ∃ W, v1.setCell ⟨w.heap.size, 3, none⟩ (.string ⟨by_.toArray⟩) = W := ⟨_, rfl⟩
  rw [hv2]
  have HXb := Lib.hid (show HasCells v2 _ _ 49 from hv2 ▸ HXa.out.set 3 (.string ⟨by_.toArray⟩))
  have HPb := Lib.hid (show HasCells v2 _ _ 41 from hv2 ▸ HPa.out.setOther (by omega) _)
  have HVb := Lib.hid hv2
  clear hv2 e3 f3
  refine hK.out _ _ (⟨HPb.out.cell (j := 0) rfl, HXb.out.cell (j := 0) rfl, HXb.out.cell (j := 1) rfl, HXb.out.cell (j := 2) rfl⟩) (fun hHeld => ?_)
  clear hK K
  try simp only [Act.put, zq1, zq2, zq3, zq4, zq5, zq6]
  refine wpAnyH_done (by kernel_rfl) ?_ 0
  have p0 := HPb.out.cell (j := 0) rfl
  go_wp2
  go_ret
  have HBb := Lib.hid (show Below w.heap.size w v2 from HVb.out ▸ HBa.out.setCell (p := ⟨w.heap.size, 3, none⟩) (Nat.le_refl _) _)
  have HRb := Lib.hid (show RIn v2 (w.heap.size + 1) (.slice (some ⟨w5.heap.size, 0, none⟩) 2 2) [txtI fm, rx] from HVb.out ▸ RIn.store (RIn.below HR8.out HSa.out) (Nat.lt_succ_self _) _)
  have HKb := Lib.hid (show KidsAt _ _ _ _ v2 _ _ _ _ _ from HVb.out ▸ (HK8.out.after HSa.out).setLow (q := w.heap.size) (by omega) 3 (.string ⟨by_.toArray⟩))
  refine ⟨w.heap.size, rfl, ⟨.slice (some ⟨w5.heap.size, 0, none⟩) 2 2, ul, un, [gy], ⟨Nat.le_refl _, HXb.out.lt⟩, by rw [HX.out, HBY.out]; exact HXb.out, by rw [HX.out]; exact RIn.mono HRb.out (Nat.le_succ _), ?_, ?_, by rw [HKP.out]; rfl, ?_⟩, HBb.out⟩
  · rw [HKP.out]
    exact HKb.out.l.textsIn (fun g e => ⟨(HKb.out.l.lt g e).1, (HKb.out.l.lt g e).2⟩)
  · exact HKb.out.n.ptrsIn (fun g e => ⟨(HKb.out.n.lt g e).1, (HKb.out.n.lt g e).2⟩)
  · intro j k hk
    rw [HKP.out] at hk
    obtain ⟨gk, e1, e2⟩ := HKb.out.kid j k.2 (by
      cases j with
      | zero => cases hk; rfl
      | succ j => simp at hk)
    exact ⟨gk, e1, e2.kept (fun _ _ => rfl) (fun g hg => ⟨by have := (HKb.out.foot g hg).1; omega, (HKb.out.foot g hg).2.1⟩)⟩
end Go.Proofs.YthicdhnjincflaaGreatDoor

namespace Go.Proofs.YthicdhnjincflaaGreatDoor
open Go.RowKit Go.Shelf Go.Lib
def partsP (qs : List PairD) (d : Nat) : List Part := (match endsP qs d with
  | [] => []
  | x :: m => [(16, (x :: m).map (cutQ d))]) ++ (List.range 16).filterMap fun h => match havingP qs d (UInt8.ofNat h) with
  | [] => none
  | x :: m => some (h, (x :: m).map (cutQ d))
theorem parts_flat {qs : List PairD} {d : Nat} (h : Asc qs) (hE : Even qs d) : (partsP qs d).flatMap (·.2) = qs.map (cutQ d) := by
  conv => rhs; rw [asc_parts h hE]
  unfold partsP
  rw [List.flatMap_append, List.map_append, flatMap_filterMap, List.map_flatMap]
  congr 1
  · cases endsP qs d with
    | nil => rfl
    | cons x m => simp
  · congr 1
    funext k
    cases havingP qs d (UInt8.ofNat k) with
    | nil => rfl
    | cons x m => rfl
theorem parts_mem {qs : List PairD} {d : Nat} {s : Part} (h : s ∈ partsP qs d) : (s.1 = 16 ∧ endsP qs d ≠ [] ∧ s.2 = (endsP qs d).map (cutQ d)) ∨ (s.1 < 16 ∧ ∃ x m, havingP qs d (UInt8.ofNat s.1) = x :: m ∧ s.2 = (x :: m).map (cutQ d)) := by
  unfold partsP at h
  rcases List.mem_append.1 h with h | h
  · cases he : endsP qs d with
    | nil => rw [he] at h; cases h
    | cons x m =>
      rw [he] at h
      rw [List.mem_singleton] at h
      subst h
      exact .inl ⟨rfl, by simp, rfl⟩
  · obtain ⟨k, hk, h2⟩ := List.mem_filterMap.1 h
    have hk16 := List.mem_range.1 hk
    cases he : havingP qs d (UInt8.ofNat k) with
    | nil => rw [he] at h2; cases h2
    | cons x m =>
      rw [he] at h2
      cases h2
      exact .inr ⟨hk16, x, m, he, rfl⟩
theorem ends_mem {qs : List PairD} {d : Nat} {q : PairD} (h : q ∈ endsP qs d) : q ∈ qs ∧ (pth q).drop d = [] := by
  obtain ⟨h1, h2⟩ := List.mem_filter.1 h
  refine ⟨h1, ?_⟩
  have h3 : rankP d q = 0 := by simpa using h2
  unfold rankP at h3
  cases hg : (pth q)[d]? with
  | none => rw [List.drop_eq_nil_iff]; exact List.getElem?_eq_none_iff.1 hg
  | some b => rw [hg] at h3; simp at h3
theorem having_mem {qs : List PairD} {d : Nat} {b : UInt8} {q : PairD} (h : q ∈ havingP qs d b) : q ∈ qs ∧ (pth q).drop d = b :: (pth q).drop (d + 1) := by
  obtain ⟨h1, h2⟩ := List.mem_filter.1 h
  have h3 : (pth q)[d]? = some b := by simpa using h2
  obtain ⟨h4, h5⟩ := List.getElem?_eq_some_iff.1 h3
  exact ⟨h1, by rw [List.drop_eq_getElem_cons h4, h5]⟩
theorem parts_spec {qs : List PairD} {d : Nat} (hE : Even qs d) (hv : ∀ q ∈ qs, d ≤ (pth q).length) (hs : qs.Pairwise fun a b => a.1 ≠ b.1) {s : Part} (h : s ∈ partsP qs d) :
    (s.1 = 16 ∧ s.2 = [([], endingP qs d)]) ∨ (s.1 < 16 ∧ ∃ x m, havingP qs d (UInt8.ofNat s.1) = x :: m ∧ s.2 = (x :: m).map (cutQ d)) := by
  rcases parts_mem h with ⟨h1, h2, h3⟩ | h
  · refine .inl ⟨h1, ?_⟩
    rcases ends_le hE hv hs with ⟨h4, _⟩ | ⟨q, h4, h5⟩
    · exact absurd h4 h2
    · have h6 := (ends_mem (q := q) (by rw [h4]; simp)).2
      rw [h3, h4, h5]
      simp [cutQ, h6]
  · exact .inr h
theorem ofNat_small {k : Nat} (h : k < 16) : (UInt8.ofNat k).toNat = k := by simp; omega
theorem parts_ok {qs : List PairD} {d : Nat} (hE : Even qs d) (hv : ∀ q ∈ qs, d ≤ (pth q).length) (hs : qs.Pairwise fun a b => a.1 ≠ b.1) : PartsOk (partsP qs d) := by
  refine ⟨fun s h => ?_, ?_⟩
  · rcases parts_spec hE hv hs h with ⟨h1, h2⟩ | ⟨h1, x, m, h2, h3⟩
    · exact .inl ⟨h1, _, h2⟩
    · refine .inr ⟨UInt8.ofNat s.1, (ofNat_small h1).symm, by rw [ofNat_small h1]; exact h1, by rw [h3]; simp, fun y hy => ?_⟩
      rw [h3] at hy
      obtain ⟨z, hz, rfl⟩ := List.mem_map.1 hy
      exact ⟨_, (having_mem (q := z) (by rw [h2]; exact hz)).2⟩
  · unfold partsP
    rw [List.pairwise_append]
    refine ⟨?_, ?_, ?_⟩
    · cases endsP qs d with
      | nil => exact List.Pairwise.nil
      | cons x m => exact List.pairwise_singleton _ _
    · refine List.Pairwise.filterMap _ ?_ (List.Pairwise.and_mem.1 (List.pairwise_lt_range (n := 16)))
      intro a a' ⟨ha, ha', hlt⟩ b hb b' hb'
      have e : ∀ k (s : Part), (match havingP qs d (UInt8.ofNat k) with | [] => none | x :: m => some (k, (x :: m).map (cutQ d))) = some s → s.1 = k := fun k s h => by
        cases hh : havingP qs d (UInt8.ofNat k) with
        | nil => rw [hh] at h; cases h
        | cons x m => rw [hh] at h; cases h; rfl
      have h1 := e a b hb
      have h2 := e a' b' hb'
      have := List.mem_range.1 ha'
      exact ⟨by omega, by omega⟩
    · intro a ha b hb
      obtain ⟨k, hk, h2⟩ := List.mem_filterMap.1 hb
      have hk16 := List.mem_range.1 hk
      have hb1 : b.1 = k := by
        cases hh : havingP qs d (UInt8.ofNat k) with
        | nil => rw [hh] at h2; cases h2
        | cons x m => rw [hh] at h2; cases h2; rfl
      have ha1 : a.1 = 16 := by
        cases he : endsP qs d with
        | nil => rw [he] at ha; cases ha
        | cons x m => rw [he] at ha; rw [List.mem_singleton] at ha; rw [ha]
      exact ⟨by omega, by omega⟩
def kidsOf (qs : List PairD) (d : Nat) (p : List Part) : List (List UInt8 × List PairD × Nat) := p.filterMap fun s => if s.1 < 16 then some ([UInt8.ofNat s.1], havingP qs d (UInt8.ofNat s.1), d + 1) else none
theorem filterMap_same {α β : Type} {l : List α} {f g : α → Option β} (h : ∀ a ∈ l, f a = g a) : l.filterMap f = l.filterMap g := by
  induction l with
  | nil => rfl
  | cons a t ih =>
    rw [List.filterMap_cons, List.filterMap_cons, h a List.mem_cons_self, ih (fun b hb => h b (List.mem_cons_of_mem _ hb))]
theorem kids_final {q q2 : PairD} {r : List PairD} {d : Nat} (hn : ¬ 0 < alikeP (q :: q2 :: r) d) : kidsOf (q :: q2 :: r) d (partsP (q :: q2 :: r) d) = kidsP (q :: q2 :: r) d := by
  unfold kidsOf partsP kidsP
  dsimp only
  rw [if_neg hn, List.filterMap_append, List.filterMap_filterMap]
  rw [show (List.filterMap (fun s : Part => if s.1 < 16 then some ([UInt8.ofNat s.1], havingP (q :: q2 :: r) d (UInt8.ofNat s.1), d + 1) else none) (match endsP (q :: q2 :: r) d with
    | [] => []
    | x :: m => [(16, (x :: m).map (cutQ d))])) = [] from by
      cases endsP (q :: q2 :: r) d with
      | nil => rfl
      | cons x m => rfl]
  rw [List.nil_append]
  refine filterMap_same fun k hk => ?_
  have hk16 := List.mem_range.1 hk
  cases hh : havingP (q :: q2 :: r) d (UInt8.ofNat k) with
  | nil => rfl
  | cons x m =>
    show (if k < 16 then some ([UInt8.ofNat k], havingP (q :: q2 :: r) d (UInt8.ofNat k), d + 1) else none) = _
    rw [if_pos hk16, hh]
def tgtP (f : Nat) (qs : List PairD) (d h : Nat) : Item := if h = 16 then txtI (endingP qs d) else childP f qs d h
def itemsAt (f : Nat) (qs : List PairD) (d : Nat) (p : List Part) : List Item := (List.range 17).map fun h => if h ∈ p.map Prod.fst then tgtP f qs d h else Item.none
theorem itemsAt_length (f : Nat) (qs : List PairD) (d : Nat) (p : List Part) : (itemsAt f qs d p).length = 17 := by unfold itemsAt; rw [List.length_map, List.length_range]
theorem itemsAt_nil (f : Nat) (qs : List PairD) (d : Nat) : itemsAt f qs d [] = List.replicate 17 Item.none := by
  unfold itemsAt
  simp only [List.map_nil, List.not_mem_nil, if_false]
  rfl
theorem itemsAt_snoc (f : Nat) (qs : List PairD) (d : Nat) (p : List Part) (s : Part) (hs : s.1 ≤ 16) : itemsAt f qs d (p ++ [s]) = (itemsAt f qs d p).set s.1 (tgtP f qs d s.1) := by
  apply List.ext_getElem?
  intro k
  rw [List.getElem?_set, itemsAt_length]
  unfold itemsAt
  rw [List.getElem?_map, List.getElem?_map]
  by_cases hk : k < 17
  · rw [List.getElem?_range hk]
    simp only [Option.map_some, List.map_append, List.map_cons, List.map_nil, List.mem_append, List.mem_singleton]
    by_cases e : s.1 = k
    · subst e
      rw [if_pos rfl, if_pos hk, if_pos (.inr rfl)]
    · rw [if_neg e]
      by_cases h : k ∈ p.map Prod.fst
      · rw [if_pos (.inl h), if_pos h]
      · rw [if_neg (fun h2 => h2.elim h (fun e2 => e e2.symm)), if_neg h]
  · rw [List.getElem?_eq_none (by rw [List.length_range]; omega), if_neg (by omega)]
    rfl
theorem items_final {qs : List PairD} {d : Nat} (f : Nat) (hE : Even qs d) (hv : ∀ q ∈ qs, d ≤ (pth q).length) (hs : qs.Pairwise fun a b => a.1 ≠ b.1) : itemsAt f qs d (partsP qs d) = (List.range 16).map (childP f qs d) ++ [txtI (endingP qs d)] := by
  unfold itemsAt
  rw [List.range_succ, List.map_append]
  congr 1
  · refine List.map_congr_left fun k hk => ?_
    have hk16 := List.mem_range.1 hk
    have e : tgtP f qs d k = childP f qs d k := by unfold tgtP; rw [if_neg (by omega)]
    split
    · exact e
    · rename_i h
      unfold childP
      cases hh : havingP qs d (UInt8.ofNat k) with
      | nil => rfl
      | cons x m =>
        refine absurd ?_ h
        refine List.mem_map.2 ⟨(k, (x :: m).map (cutQ d)), ?_, rfl⟩
        unfold partsP
        refine List.mem_append_right _ (List.mem_filterMap.2 ⟨k, hk, ?_⟩)
        rw [hh]
  · simp only [List.map_cons, List.map_nil]
    congr 1
    split
    · rfl
    · rename_i h
      rcases ends_le hE hv hs with ⟨_, h5⟩ | ⟨q, h4, _⟩
      · rw [h5]; rfl
      · refine absurd ?_ h
        refine List.mem_map.2 ⟨(16, [cutQ d q]), ?_, rfl⟩
        unfold partsP
        rw [h4]
        exact List.mem_append_left _ (by simp)
end Go.Proofs.YthicdhnjincflaaGreatDoor

namespace Go.Proofs.YthicdhnjincflaaGreatDoor
open Go.RowKit Go.Shelf Go.Lib
def CellsKept (A : Nat → Prop) (W W' : World) : Prop := ∀ g, A g → ∀ o : Obj, W.heap[g]? = some o → o.isCells = true → W'.heap[g]? = some o
theorem CellsKept.cell {A : Nat → Prop} {W W' : World} (h : CellsKept A W W') {g o : Nat} {u : Value} (hg : A g) (hc : W.cell? ⟨g, o, none⟩ = some u) : W'.cell? ⟨g, o, none⟩ = some u := by
  obtain ⟨ob, ho, hcl⟩ := cells_of_cell hc
  have ho : W.heap[g]? = some ob := ho
  exact (World.cell?_of_block (a := ⟨g, o, none⟩) ((h g hg ob ho hcl).trans ho.symm)).trans hc
theorem CellsKept.has {A : Nat → Prop} {W W' : World} (h : CellsKept A W W') {g : Nat} {cs : List Value} {t : TypeId} (hg : A g) (hc : HasCells W g cs t) : HasCells W' g cs t := h g hg _ hc rfl
theorem CellsKept.grown {A : Nat → Prop} {W W' : World} {row : Option Nat} (hg : W.grownBy W' row) (hr : ∀ r, row = some r → A r → ∃ o : Obj, W.heap[r]? = some o ∧ o.isCells = false) : CellsKept A W W' := fun g hA o ho hc =>
  (hg.block g (Array.getElem?_eq_some_iff.1 ho).1 (fun e => by
    obtain ⟨o', h1, h2⟩ := hr g e.symm hA
    rw [ho] at h1; cases h1; rw [hc] at h2; cases h2)).trans ho
theorem NodeAt.keptC {w w' : World} {A A' : Nat → Prop} (hb : CellsKept A w w') (hA : ∀ g, A g → A' g) : ∀ {f : Nat} {ps : List PairD} {d g : Nat}, NodeAt f A w ps d g → NodeAt f A' w' ps d g
  | 0, _, _, _, h => h.elim
  | f + 1, ps, d, g, h => by
    obtain ⟨u, vl, vn, ptrs, h0, h1, h2, h3, h4, h5, h6⟩ := h
    refine ⟨u, vl, vn, ptrs, hA g h0, hb.has h0 h1, ReadsIn.kept h2 (fun g u o hg hc => hb.cell hg hc) hA, ?_, ?_, h5, fun j k hk => ?_⟩
    · obtain ⟨p, c, hv, h⟩ := h3
      refine ⟨p, c, hv, ?_⟩
      rcases h with h | ⟨bk, o, hp, hk, h⟩
      · exact .inl h
      · exact .inr ⟨bk, o, hp, hA bk hk, fun j x hx => hb.cell hk (h j x hx)⟩
    · obtain ⟨p, c, hv, h⟩ := h4
      refine ⟨p, c, hv, ?_⟩
      rcases h with h | ⟨bk, o, hp, hk, h⟩
      · exact .inl h
      · exact .inr ⟨bk, o, hp, hA bk hk, fun j x hx => hb.cell hk (h j x hx)⟩
    · obtain ⟨gk, h7, h8⟩ := h6 j k hk
      exact ⟨gk, h7, NodeAt.keptC hb hA h8⟩
theorem OwnN.cellsAt {base : Nat} {w : World} {v : Value} {l : List Nat} (h : OwnN base w v l) {k : Nat} (hk : v.ownBlock = some k) : ∃ o : Obj, w.heap[k]? = some o ∧ o.isCells = true := by
  obtain ⟨_, ⟨rfl, _⟩ | ⟨g, cap, cur, rfl, _, hg, _⟩⟩ := h
  · cases hk
  · cases hk; exact ⟨_, hg, rfl⟩
theorem KidsAt.keptC {B K0 f : Nat} {A : Nat → Prop} {W W' : World} {ul un : Value} {LL : List ByteArray} {PP : List Nat} {kids : List (List PairD × Nat)} (h : KidsAt B K0 f A W ul un LL PP kids)
    (hb : CellsKept (fun g => K0 ≤ g) W W') (hs : W.heap.size ≤ W'.heap.size) : KidsAt B K0 f A W' ul un LL PP kids := by
  refine ⟨h.l.of_block (fun k e => ?_), h.n.of_block (fun k e => ?_), h.len, fun j k hk => ?_, fun g hg => ⟨(h.foot g hg).1, Nat.lt_of_lt_of_le (h.foot g hg).2.1 hs, (h.foot g hg).2.2⟩, h.lo, h.no, h.sep⟩
  · obtain ⟨o, h1, h2⟩ := h.l.cellsAt e
    exact (hb k (h.lo k e) o h1 h2).trans h1.symm
  · obtain ⟨o, h1, h2⟩ := h.n.cellsAt e
    exact (hb k (h.no k e) o h1 h2).trans h1.symm
  · obtain ⟨gk, h1, h2⟩ := h.kid j k hk
    exact ⟨gk, h1, h2.keptC (fun g hg => hb g (h.foot g hg).1) (fun _ h => h)⟩
/-! a row of items -/
theorem itemCells_set (its : List (Item × Value)) (h : Nat) (x : Item) (v : Value) : itemCells (its.set h (x, v)) = (((itemCells its).set (h * 3) (.bool x.isList)).set (h * 3 + 1) (.string ⟨x.text.toArray⟩)).set (h * 3 + 2) v := by
  induction its generalizing h with
  | nil => rfl
  | cons q r ih =>
    cases h with
    | zero => rfl
    | succ h =>
      rw [List.set_cons_succ]
      have e : ∀ (q : Item × Value) (l : List (Item × Value)), itemCells (q :: l) = .bool q.1.isList :: .string ⟨q.1.text.toArray⟩ :: q.2 :: itemCells l := fun _ _ => rfl
      rw [e, e, ih, show (h + 1) * 3 = h * 3 + 1 + 1 + 1 by omega, show h * 3 + 1 + 1 + 1 + 1 = (h * 3 + 1) + 1 + 1 + 1 by omega, show h * 3 + 1 + 1 + 1 + 2 = (h * 3 + 2) + 1 + 1 + 1 by omega]
      simp only [List.set_cons_succ]
theorem items_set {W : World} {bI : Nat} {its : List (Item × Value)} (h : HasCells W bI (itemCells its) 46) (k : Nat) (x : Item) (v : Value) :
    HasCells (((W.setCell ⟨bI, k * 3, none⟩ (.bool x.isList)).setCell ⟨bI, k * 3 + 1, none⟩ (.string ⟨x.text.toArray⟩)).setCell ⟨bI, k * 3 + 2, none⟩ v) bI (itemCells (its.set k (x, v))) 46 := by
  rw [itemCells_set]
  exact ((h.set (k * 3) _).set (k * 3 + 1) _).set (k * 3 + 2) _
theorem items_cells {W : World} {bI : Nat} {its : List (Item × Value)} (h : HasCells W bI (itemCells its) 46) {k : Nat} (hk : k < its.length) :
    ∃ a b c, W.cell? ⟨bI, k * 3, none⟩ = some a ∧ W.cell? ⟨bI, k * 3 + 1, none⟩ = some b ∧ W.cell? ⟨bI, k * 3 + 2, none⟩ = some c := by
  obtain ⟨q, hq⟩ : ∃ q, its[k]? = some q := ⟨_, List.getElem?_eq_getElem hk⟩
  have e := fun j (hj : j < 3) => itemCells_at its k j q hq hj
  exact ⟨_, _, _, h.cell (by simpa using e 0 (by omega)), h.cell (by simpa using e 1 (by omega)), h.cell (by simpa using e 2 (by omega))⟩
theorem items_read {W : World} {A : Nat → Prop} {bI : Nat} {its : List (Item × Value)} (h : HasCells W bI (itemCells its) 46) (hA : A bI) (hr : ∀ q ∈ its, ReadsIn W A q.2 q.1.list) {n : Nat} {l : List Item} (hn : its.length = n) (hl : its.map Prod.fst = l) : ReadsIn W A (.slice (some ⟨bI, 0, none⟩) n n) l := by
  subst hn
  subst hl
  have hm : (its.map Prod.fst).length = its.length := by simp
  rw [← hm]
  refine ReadsIn.mk hA (fun i x hx => ?_) (Nat.le_refl _)
  rw [List.getElem?_map] at hx
  cases hq : its[i]? with
  | none => rw [hq] at hx; cases hx
  | some q =>
    rw [hq] at hx
    cases hx
    have e := fun j (hj : j < 3) => itemCells_at its i j q hq hj
    rw [Nat.zero_add]
    exact ⟨h.cell (by simpa using e 0 (by omega)), h.cell (by simpa using e 1 (by omega)), q.2, h.cell (by simpa using e 2 (by omega)), hr q (List.mem_of_getElem? hq)⟩
theorem mem_set {α : Type} {l : List α} {k : Nat} {a b : α} (h : b ∈ l.set k a) : b = a ∨ b ∈ l := (List.mem_or_eq_of_mem_set h).symm
theorem wpList_make17 {ops : Array Oper} {rest : List Oper} {o : Oper} {a : Act} {w : World} {Q : Exit → Act → World → Prop} (hgd : o.guard = none) (l c : Operand) (t : TypeId) (ho : o.op = Op.makeSlice t l c)
    (ht : Tryz.prog.underlying t = some (.slice 46)) (hl : a.eval l = .int .i64 17) (hc : a.eval c = .int .i64 17)
    (h : ∀ w', HasCells w' w.heap.size (itemCells (List.replicate 17 (Item.none, .slice none 0 0))) 46 → Below w.heap.size w w' → wpList Tryz.prog ops Q rest (a.put o.dst (.slice (some ⟨w.heap.size, 0, none⟩) 17 17)) w') : wpList Tryz.prog ops Q (o :: rest) a w := by
  obtain ⟨i0, hi0, hz0, hz1, hz2⟩ := info_parts infoItem
  refine wpList_make_full w hgd l c t ho w.heap.size 46 i0 (.agg #[.bool false, .string ⟨#[]⟩, .slice none 0 0]) 3 ht hi0 hz0 hz1 .i64 .i64 17 17 17 hl hc rfl rfl (by rw [hz2]; omega) (by unfold maxLen; omega) (Nat.le_refl _) ?_
  intro w' h1 h2
  refine h w' ?_ ((Below.refl _ w).grown h2 (Nat.le_refl _) (fun r e => by cases e))
  have e1 : (madeCells (Value.agg #[.bool false, .string ⟨#[]⟩, .slice none 0 0]).cells (17 * 3)).toList = itemCells (List.replicate 17 (Item.none, .slice none 0 0)) := by
    unfold madeCells
    rw [Array.toList_map, Array.toList_range]
    rfl
  rw [e1] at h1
  obtain ⟨_, ⟨h3, _⟩ | ⟨g, cap, cur, hv, _, hh, h4, _, h5, h6⟩⟩ := h1
  · cases h3
  · cases hv
    have e2 : cur.toList = itemCells (List.replicate 17 (Item.none, .slice none 0 0)) := by
      rw [← h6, List.take_of_length_le (by rw [Array.length_toList, h5]; omega)]
    show w'.heap[w.heap.size]? = some (.cells (itemCells (List.replicate 17 (Item.none, .slice none 0 0))).toArray 46 (0, 0))
    rw [← e2]
    exact hh
end Go.Proofs.YthicdhnjincflaaGreatDoor

namespace Go.Proofs.YthicdhnjincflaaGreatDoor
open Go.RowKit Go.Shelf Go.Lib
def BrI (f : Nat) (ps : List PairD) (d : Nat) (w : World) (bI iv K0 : Nat) (p : List Part) (W : World) : Prop :=
  ∃ (A : Nat → Prop) (ul un : Value) (PP : List Nat) (its : List (Item × Value)),
    KidsAt w.heap.size K0 f A W ul un ((kidsOf ps d p).map fun k => (⟨k.1.toArray⟩ : ByteArray)) PP ((kidsOf ps d p).map (·.2)) ∧
    HasCells W w.heap.size [.bool false, .string ⟨#[]⟩, .slice none 0 0, .string ⟨#[]⟩, ul, un] 49 ∧ HasCells W (w.heap.size + 1) [.pointer (some ⟨w.heap.size, 0, none⟩)] 41 ∧
    HasCells W iv [.slice (some ⟨bI, 0, none⟩) 17 17] 44 ∧ HasCells W bI (itemCells its) 46 ∧
    its.map Prod.fst = itemsAt f ps d p ∧ (∀ q ∈ its, ReadsIn W A q.2 q.1.list) ∧ Below w.heap.size w W ∧ K0 ≤ W.heap.size
theorem BrI.grown {f : Nat} {ps : List PairD} {d : Nat} {w : World} {bI iv K0 bx : Nat} {p : List Part} {W W' : World} {row : Option Nat} (h : BrI f ps d w bI iv K0 p W) (hg : W.grownBy W' row)
    (h1 : w.heap.size + 1 < bI) (h2 : bI < iv) (h3 : iv < bx) (h4 : bx < K0) (hr : ∀ r, row = some r → r = bx ∨ (w.heap.size ≤ r ∧ ∃ o : Obj, W.heap[r]? = some o ∧ o.isCells = false)) : BrI f ps d w bI iv K0 p W' := by
  obtain ⟨A, ul, un, PP, its, hk, hx, hp, hiv, hI, hm, hrd, hb, hK⟩ := h
  have ck : CellsKept (fun g => g ≠ bx) W W' := CellsKept.grown hg (fun r e hne => ((hr r e).resolve_left hne).2)
  exact ⟨A, ul, un, PP, its, hk.keptC (fun g hg => ck g (by omega)) hg.size, ck.has (by omega) hx, ck.has (by omega) hp, ck.has (by omega) hiv, ck.has (by omega) hI, hm,
    fun q hq => ReadsIn.kept (hrd q hq) (fun g u o hA hc => ck.cell (by have := (hk.foot g hA).1; omega) hc) (fun _ h => h), hb.grown hg hb.size (fun r e => by
      rcases hr r e with h | h
      · omega
      · exact h.1), Nat.le_trans hK hg.size⟩
theorem parts_len (ps : List PairD) (d : Nat) : (partsP ps d).length ≤ 17 := by
  unfold partsP
  rw [List.length_append]
  have h1 : ((List.range 16).filterMap fun h => match havingP ps d (UInt8.ofNat h) with
    | [] => none
    | x :: m => some (h, (x :: m).map (cutQ d))).length ≤ 16 := by
    have := List.length_filterMap_le (fun h => match havingP ps d (UInt8.ofNat h) with
      | [] => none
      | x :: m => some (h, (x :: m).map (cutQ d))) (List.range 16)
    rw [List.length_range] at this
    exact this
  have h2 : (match endsP ps d with
    | [] => []
    | x :: m => [((16, (x :: m).map (cutQ d)) : Part)]).length ≤ 1 := by
    cases endsP ps d with
    | nil => exact Nat.zero_le _
    | cons x m => exact Nat.le_refl _
  exact Nat.add_le_add h2 h1
theorem kidsOf_snoc16 (ps : List PairD) (d : Nat) (p : List Part) (m : List PairD) : kidsOf ps d (p ++ [(16, m)]) = kidsOf ps d p := by
  unfold kidsOf
  rw [List.filterMap_append]
  exact List.append_nil _
theorem kidsOf_snoc (ps : List PairD) (d : Nat) (p : List Part) (h : Nat) (m : List PairD) (hh : h < 16) : kidsOf ps d (p ++ [(h, m)]) = kidsOf ps d p ++ [([UInt8.ofNat h], havingP ps d (UInt8.ofNat h), d + 1)] := by
  unfold kidsOf
  rw [List.filterMap_append]
  congr 1
  rw [List.filterMap_cons]
  simp only [hh, if_true, List.filterMap_nil]
theorem kidsOf_len (ps : List PairD) (d : Nat) (p : List Part) : (kidsOf ps d p).length ≤ p.length := List.length_filterMap_le _ _
theorem refer_keeps {B B' gx : Nat} {W W' : World} {ul un : Value} {LL : List ByteArray} {PP : List Nat} (hl : OwnS B W ul LL) (hn : OwnN B W un PP) (hx : gx < B') (hs : W.heap.size ≤ W'.heap.size)
    (hfr : ∀ g, g < W.heap.size → g ≠ gx → ul.ownBlock ≠ some g → un.ownBlock ≠ some g → W'.heap[g]? = W.heap[g]?) : KeepsFrom B' W W' := by
  refine ⟨hs, fun k o hk ho hc => ?_⟩
  have hk2 := (Array.getElem?_eq_some_iff.1 ho).1
  refine (hfr k hk2 (by omega) (fun e => ?_) (fun e => ?_)).trans ho
  · obtain ⟨o', h1, h2⟩ := hl.cellsAt e
    rw [ho] at h1; cases h1; rw [hc] at h2; cases h2
  · obtain ⟨o', h1, h2⟩ := hn.cellsAt e
    rw [ho] at h1; cases h1; rw [hc] at h2; cases h2
theorem drop_one {p : List UInt8} {b : UInt8} {t : List UInt8} (h : p = b :: t) : (⟨p.toArray⟩ : ByteArray).extract 0 1 = ⟨[b].toArray⟩ := by
  rw [extract_bt p 1, h]; rfl
end Go.Proofs.YthicdhnjincflaaGreatDoor
