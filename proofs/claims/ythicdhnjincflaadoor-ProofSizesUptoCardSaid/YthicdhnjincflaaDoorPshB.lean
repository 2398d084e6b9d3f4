/- Plain: what the way of a key proves of the four known pairs; the first texts, shortened; two lists that prove unlike things have a clash. -/
import Derived.Test.YthicdhnjincflaaDoorTriS
import Derived.Test.YthicdhnjincflaaDoorPrfJ
import Derived.Test.YthicdhnjincflaaDoorTrfF
import Derived.Test.YthicdhnjincflaaDoorApT
import Derived.Test.YthicdhnjincflaaDoorPaiM
import Derived.Laws.AppendOwnNone
import Derived.Laws.OwnMore
namespace Go.Proofs.YthicdhnjincflaaDoor
open Go.RowKit

/-- the pairs whose root is known -/
def fourP : List PairD := [([100, 111], [118, 101, 114, 98]), ([100, 111, 103], [112, 117, 112, 112, 121]), ([100, 111, 103, 101], [99, 111, 105, 110]), ([104, 111, 114, 115, 101], [115, 116, 97, 108, 108, 105, 111, 110])]
theorem four_right : rightP fourP = true := by decide
theorem four_root : rootR fourP = (rootP keccakL fourP, 0) := by unfold rootR; rw [if_pos four_right]
theorem four_prove (key : List UInt8) : proveR fourP key = (wayP keccakL 129 fourP 0 (halves key), 0) := by unfold proveR; rw [if_pos four_right]; rfl
theorem four_dog : checkP keccakL (rootP keccakL fourP) [100, 111, 103] (wayP keccakL 129 fourP 0 (halves [100, 111, 103])) = ([112, 117, 112, 112, 121], 0) := by
  have h := check_way (K := keccakL) keccakL_length four_right (by decide) (show keyOk [100, 111, 103] = true from rfl) [] (fun s hs => by cases hs) (by decide)
  rw [List.append_nil, if_pos rfl, show lookupP fourP (halves [100, 111, 103]) = [112, 117, 112, 112, 121] by decide] at h
  exact h
theorem four_cat : checkP keccakL (rootP keccakL fourP) [99, 97, 116] (wayP keccakL 129 fourP 0 (halves [99, 97, 116])) = ([], 0) := by
  have h := check_way (K := keccakL) keccakL_length four_right (by decide) (show keyOk [99, 97, 116] = true from rfl) [] (fun s hs => by cases hs) (by decide)
  rw [List.append_nil, if_pos rfl, show lookupP fourP (halves [99, 97, 116]) = [] by decide] at h
  exact h
theorem four_more : checkP keccakL (rootP keccakL fourP) [100, 111, 103] (wayP keccakL 129 fourP 0 (halves [100, 111, 103]) ++ [[120]]) = ([], 70) := by
  have h := check_way (K := keccakL) keccakL_length four_right (by decide) (show keyOk [100, 111, 103] = true from rfl) [[120]] (fun s hs => by rw [List.mem_singleton.1 hs]; decide) (by decide)
  rwa [if_neg (by decide)] at h
theorem four_way_len (key : List UInt8) : (wayP keccakL 129 fourP 0 (halves key)).length ≤ 129 := by
  obtain ⟨hv, hr⟩ := right_valid four_right (by decide)
  exact (way_len (K := keccakL) keccakL_length 129 fourP 0 (halves key) hv hr (by omega) (isPath_halves key) (Nat.zero_le _) (along_zero _ _)).1
/-- the first forty texts, of at most three thousand bytes each -/
def someT (l : List (List UInt8)) : List (List UInt8) := (l.take 40).map fun s => s.take 3000
theorem someT_len (l : List (List UInt8)) : (someT l).length ≤ 40 := by unfold someT; rw [List.length_map, List.length_take]; omega
theorem someT_at {l : List (List UInt8)} : ∀ s ∈ someT l, s.length ≤ 3000 := fun s hs => by
  obtain ⟨t, _, rfl⟩ := List.mem_map.1 hs
  rw [List.length_take]; omega
/-- unlike things proved under one root -/
theorem only_clash {root key : List UInt8} {l m : List (List UInt8)} (h1 : (checkP keccakL root key l).2 = 0) (h2 : (checkP keccakL root key m).2 = 0) (hn : (checkP keccakL root key l).1 ≠ (checkP keccakL root key m).1) : HasClashK ((([128] :: l) ++ m).map fun s => (⟨s.toArray⟩ : ByteArray)) := by
  rcases check_two (K := keccakL) (root := root) (key := key) (l := l) (m := m) (v := (checkP keccakL root key l).1) (w := (checkP keccakL root key m).1) (by rw [← h1]) (by rw [← h2]) with h | ⟨a, ha, b, hb, h3, h4⟩
  · exact absurd h hn
  · refine ⟨⟨a.toArray⟩, ⟨b.toArray⟩, List.mem_map.2 ⟨a, ha, rfl⟩, List.mem_map.2 ⟨b, hb, rfl⟩, fun e => h3 (by have := congrArg (fun x : ByteArray => x.data.toList) e; simpa using this), ?_⟩
    unfold kecB
    rw [show (⟨a.toArray⟩ : ByteArray).data.toList = a from rfl, show (⟨b.toArray⟩ : ByteArray).data.toList = b from rfl, h4]
end Go.Proofs.YthicdhnjincflaaDoor
/- Contracts of pharoslaw07's four and some. -/
namespace Go.Proofs.YthicdhnjincflaaDoor
open Go.RowKit Go.Shelf Go.Lib
attribute [local go_sem] Oper.semAt_some

def fourCells : List Value := pairCells fourP
set_option maxRecDepth 100000 in
set_option maxHeartbeats 1600000 in
theorem four_any (w : World) : Calls Tryd.prog 34 #[] w fun e w' => (∃ v, e = .returned v ∧ Pairs w' v fourP) ∧ Below w.heap.size w w' := by
  have hc := HasCells.new w [.string ⟨#[100, 111]⟩, .string ⟨#[118, 101, 114, 98]⟩, .string ⟨#[100, 111, 103]⟩, .string ⟨#[112, 117, 112, 112, 121]⟩, .string ⟨#[100, 111, 103, 101]⟩, .string ⟨#[99, 111, 105, 110]⟩, .string ⟨#[104, 111, 114, 115, 101]⟩, .string ⟨#[115, 116, 97, 108, 108, 105, 111, 110]⟩] 66
  have HC := Lib.hid hc
  clear hc
  go_enter Tryd.func34, Tryd.ntmps34
  go_wp2_with fail
  go_ret
  refine ⟨⟨_, rfl, _, _, rfl, Nat.le_refl _, .inr ⟨_, 0, rfl, HC.out.lt, ?_⟩⟩, laid1 w _⟩
  intro j q hq
  have hlt := (List.getElem?_eq_some_iff.1 hq).1
  have hj : j < 4 := hlt
  match j, hj, hq with
  | 0, _, hq => cases hq; exact ⟨HC.out.cell (j := 0) rfl, HC.out.cell (j := 1) rfl⟩
  | 1, _, hq => cases hq; exact ⟨HC.out.cell (j := 2) rfl, HC.out.cell (j := 3) rfl⟩
  | 2, _, hq => cases hq; exact ⟨HC.out.cell (j := 4) rfl, HC.out.cell (j := 5) rfl⟩
  | 3, _, hq => cases hq; exact ⟨HC.out.cell (j := 6) rfl, HC.out.cell (j := 7) rfl⟩
theorem extract_bt (s : List UInt8) (m : Nat) : (⟨s.toArray⟩ : ByteArray).extract 0 m = ⟨(s.take m).toArray⟩ := by
  apply ByteArray.ext
  rw [ByteArray.data_extract]
  simp
theorem take_minL (s : List UInt8) (k : Nat) : s.take (min s.length k) = s.take k := by
  rcases Nat.le_total s.length k with h | h
  · rw [Nat.min_eq_left h, List.take_of_length_le (Nat.le_refl _), List.take_of_length_le h]
  · rw [Nat.min_eq_right h]
theorem someT_take {xs : List (List UInt8)} {k : Nat} {s : List UInt8} (hs : xs[k]? = some s) (hk : k < 40) : (someT xs).take (k + 1) = (someT xs).take k ++ [s.take 3000] := by
  rw [List.take_add_one]
  congr 1
  unfold someT
  rw [List.getElem?_map, List.getElem?_take, if_pos hk, hs]
  rfl
set_option maxRecDepth 100000 in
set_option maxHeartbeats 6400000 in
theorem some_any (v : Value) (xs : List (List UInt8)) (w : World) (hv : Strs w v (xs.map bt)) (hN : xs.length ≤ 1099511627776) :
    Calls Tryd.prog 17 #[v] w fun e w' => ∃ p c, e = .returned (.slice p (someT xs).length c) ∧ OwnS w.heap.size w' (.slice p (someT xs).length c) ((someT xs).map bt) ∧ Below w.heap.size w w' := by
  obtain ⟨p, c, rfl, hc, hcell⟩ := hv
  have HC := Lib.hid hcell
  obtain ⟨n, hn⟩ : ∃ n, xs.length = n := ⟨_, rfl⟩
  obtain ⟨m, hm⟩ : ∃ m, (someT xs).length = m := ⟨_, rfl⟩
  have hmn : m = min 40 n := by rw [← hm, ← hn]; unfold someT; rw [List.length_map, List.length_take]
  rw [List.length_map, hn] at hc ⊢
  rw [hn] at hN
  rw [hm]
  have HN := Lib.hid hn
  have HM := Lib.hid hm
  have HMN := Lib.hid hmn
  clear hcell hn hm hmn
  go_enter Tryd.func17, Tryd.ntmps17
  go_wp2_with fail
  go_loopw [3, 4] (fun v i wr => ∃ k : Nat, k ≤ m ∧ i = .int .i64 k ∧ Aside (OwnS w.heap.size wr v (((someT xs).take k).map bt)) ∧ Aside (Below w.heap.size w wr)) (fun _ i _ => m - (RowKit.intOf i).toNat)
  case atStart => exact ⟨0, Nat.zero_le _, rfl, OwnS.nil _ _, Below.refl _ _⟩
  case round =>
    obtain ⟨k, hk, rfl, HO, HB⟩ := hrel
    by_cases hlt : k < m
    · have hkn : k < n := by have := HMN.out; omega
      have hk40 : k < 40 := by have := HMN.out; omega
      obtain ⟨s, hs⟩ : ∃ s, xs[k]? = some s := ⟨_, List.getElem?_eq_getElem (by rw [HN.out]; exact hkn)⟩
      obtain ⟨bk, o, rfl, hbk, hcl⟩ : ∃ bk o, p = some ⟨bk, o, none⟩ ∧ bk < w.heap.size ∧ ∀ (j : Nat) x, (xs.map bt)[j]? = some x → w.cell? ⟨bk, o + j, none⟩ = some (.string x) := by
        rcases HC.out with h | ⟨bk, o, h1, h2, h3⟩
        · have h4 := congrArg List.length h
          rw [List.length_map, HN.out] at h4
          simp at h4
          omega
        · exact ⟨bk, o, h1, h2, h3⟩
      have hS : ∀ W, Below w.heap.size w W → W.cell? ⟨bk, o + k, none⟩ = some (.string ⟨s.toArray⟩) := fun W hb => (hb.cell (p := ⟨bk, o + k, none⟩) hbk).trans (hcl k _ (by rw [List.getElem?_map, hs]; rfl))
      have HS := Lib.hid hS
      have hts : ((someT xs).take (k + 1)).map bt = ((someT xs).take k).map bt ++ [bt (s.take 3000)] := by rw [someT_take hs hk40, List.map_append]; rfl
      have hll : (((someT xs).take k).map bt).length = k := by rw [List.length_map, List.length_take, HM.out]; omega
      obtain ⟨L, hL⟩ : ∃ L, ((someT xs).take k).map bt = L := ⟨_, rfl⟩
      have ho := HO.out
      rw [hL] at hts hll ho
      obtain ⟨pv, cv, hv⟩ := ho.form
      rw [hll] at hv
      subst hv
      have HO1 := Lib.hid ho
      have HTS := Lib.hid hts
      have HLL := Lib.hid hll
      have g1 : (0 : Int) ≤ k := by omega
      have g2 : (k : Int) < n := by omega
      have g3 : (k : Int) < 40 := by omega
      have hsz : (⟨s.toArray⟩ : ByteArray).size = s.length := rfl
      clear ho hts hll hL HO hcl hs hS hkn hk40
      obtain ⟨q, hq⟩ : ∃ q, min s.length 3000 = q := ⟨_, rfl⟩
      have h4 : min (s.length : Int) 3000 = (q : Int) := by omega
      have h5 : (0 : Int) ≤ (q : Int) := by omega
      have h6 : (q : Int) ≤ (s.length : Int) := by omega
      have hx := extract_bt s q
      rw [show s.take q = s.take 3000 by rw [← hq, take_minL]] at hx
      have HX := Lib.hid hx
      clear hx hq
      go_wp2_with fail
      refine wp_region_held_drew (S := (fun W => W.cell? ⟨bk, o + k, none⟩ = some (.string ⟨s.toArray⟩))) (by kernel_rfl) (HS.out _ HB.out.drew) (fun hHeld => ?_)
      refine wpAnyH_take (i := 0) (v := ?_) rfl (by kernel_rfl) (by kernel_rfl) (by kernel_rfl) (fun _ _ _ h => h) (.inl ⟨by rfl, ?_⟩) (by assumption) ?_
      rotate_left 1
      · intro w0 hSw
        go_simp <;> with_reducible rfl
      try simp only [Act.put, List.getElem_toArray, List.getElem_cons_zero, List.setIfInBounds_toArray, List.set_cons_zero, List.set_cons_succ]
      refine wpAnyH_take (i := 1) (v := ?_) rfl (by kernel_rfl) (by kernel_rfl) (by kernel_rfl) (fun _ _ _ h => h) (.inl ⟨by rfl, ?_⟩) (by assumption) ?_
      rotate_left 1
      · intro w0 hSw
        go_simp <;> with_reducible rfl
      try simp only [Act.put, List.getElem_toArray, List.getElem_cons_zero, List.getElem_cons_succ, List.setIfInBounds_toArray, List.set_cons_zero, List.set_cons_succ]
      refine wpAnyH_take (i := 2) (v := ?_) rfl (by kernel_rfl) (by kernel_rfl) (by kernel_rfl) (fun _ _ _ h => h) (.inl ⟨by rfl, ?_⟩) (by assumption) ?_
      rotate_left 1
      · intro w0 hSw
        go_simp <;> with_reducible rfl
      try simp only [Act.put, List.getElem_toArray, List.getElem_cons_zero, List.getElem_cons_succ, List.setIfInBounds_toArray, List.set_cons_zero, List.set_cons_succ]
      refine wpAnyH_take (i := 3) (v := ?_) rfl (by kernel_rfl) (by kernel_rfl) (by kernel_rfl) (fun _ _ _ h => h) (.inl ⟨by rfl, ?_⟩) (by assumption) ?_
      rotate_left 1
      · intro w0 hSw
        go_simp <;> with_reducible rfl
      try simp only [Act.put, List.getElem_toArray, List.getElem_cons_zero, List.getElem_cons_succ, List.setIfInBounds_toArray, List.set_cons_zero, List.set_cons_succ]
      refine wpAnyH_take (i := 4) (v := ?_) rfl (by kernel_rfl) (by kernel_rfl) (by kernel_rfl) (fun _ _ _ h => h) (.inl ⟨by rfl, ?_⟩) (by assumption) ?_
      rotate_left 1
      · intro w0 hSw
        have z0 := hSw
        go_simp <;> with_reducible rfl
      try simp only [Act.put, List.getElem_toArray, List.getElem_cons_zero, List.getElem_cons_succ, List.setIfInBounds_toArray, List.set_cons_zero, List.set_cons_succ]
      refine wpAnyH_take (i := 5) (v := ?_) rfl (by kernel_rfl) (by kernel_rfl) (by kernel_rfl) (fun _ _ _ h => h) (.inl ⟨by rfl, ?_⟩) (by assumption) ?_
      rotate_left 1
      · intro w0 hSw
        go_simp <;> with_reducible rfl
      try simp only [Act.put, List.getElem_toArray, List.getElem_cons_zero, List.getElem_cons_succ, List.setIfInBounds_toArray, List.set_cons_zero, List.set_cons_succ]
      refine wpAnyH_take (i := 6) (v := ?_) rfl (by kernel_rfl) (by kernel_rfl) (by kernel_rfl) (fun _ _ _ h => h) (.inl ⟨by rfl, ?_⟩) (by assumption) ?_
      rotate_left 1
      · intro w0 hSw
        go_simp <;> with_reducible rfl
      try simp only [Act.put, List.getElem_toArray, List.getElem_cons_zero, List.getElem_cons_succ, List.setIfInBounds_toArray, List.set_cons_zero, List.set_cons_succ]
      refine wpAnyH_take (i := 7) (v := ?_) rfl (by kernel_rfl) (by kernel_rfl) (by kernel_rfl) (fun _ _ _ h => h) (.inl ⟨by rfl, ?_⟩) (by assumption) ?_
      rotate_left 1
      · intro w0 hSw
        go_simp <;> with_reducible rfl
      try simp only [Act.put, List.getElem_toArray, List.getElem_cons_zero, List.getElem_cons_succ, List.setIfInBounds_toArray, List.set_cons_zero, List.set_cons_succ]
      refine wpAnyH_take (i := 8) (v := ?_) rfl (by kernel_rfl) (by kernel_rfl) (by kernel_rfl) (fun _ _ _ h => h) (.inl ⟨by rfl, ?_⟩) (by assumption) ?_
      rotate_left 1
      · intro w0 hSw
        have z0 := hSw
        go_simp <;> with_reducible rfl
      try simp only [Act.put, List.getElem_toArray, List.getElem_cons_zero, List.getElem_cons_succ, List.setIfInBounds_toArray, List.set_cons_zero, List.set_cons_succ]
      refine wpAnyH_take (i := 9) (v := ?_) rfl (by kernel_rfl) (by kernel_rfl) (by kernel_rfl) (fun _ _ _ h => h) (.inl ⟨by rfl, ?_⟩) (by assumption) ?_
      rotate_left 1
      · intro w0 hSw
        go_simp <;> with_reducible rfl
      try simp only [Act.put, List.getElem_toArray, List.getElem_cons_zero, List.getElem_cons_succ, List.setIfInBounds_toArray, List.set_cons_zero, List.set_cons_succ]
      refine wpAnyH_take (i := 10) (v := ?_) rfl (by kernel_rfl) (by kernel_rfl) (by kernel_rfl) (fun _ _ _ h => h) (.inl ⟨by rfl, ?_⟩) (by assumption) ?_
      rotate_left 1
      · intro w0 hSw
        go_simp <;> with_reducible rfl
      try simp only [Act.put, List.getElem_toArray, List.getElem_cons_zero, List.getElem_cons_succ, List.setIfInBounds_toArray, List.set_cons_zero, List.set_cons_succ]
      refine wpAnyH_take (i := 11) (v := ?_) rfl (by kernel_rfl) (by kernel_rfl) (by kernel_rfl) (fun _ _ _ h => h) (.inl ⟨by rfl, ?_⟩) (by assumption) ?_
      rotate_left 1
      · intro w0 hSw
        go_simp <;> with_reducible rfl
      try simp only [Act.put, List.getElem_toArray, List.getElem_cons_zero, List.getElem_cons_succ, List.setIfInBounds_toArray, List.set_cons_zero, List.set_cons_succ]
      refine wpAnyH_ready (rs := [12]) (by kernel_rfl) (by simp) ?_
      refine AllReadyH.cons rfl (fun K hK => ?_) AllReadyH.nil
      go_simp
      obtain ⟨w2, hal⟩ : ∃ W, (wr.alloc (.cells #[.string ((⟨s.toArray⟩ : ByteArray).extract 0 q)] 9)).drew = W := ⟨_, rfl⟩
      have hb2 : Below wr.heap.size wr w2 := by rw [← hal]; exact (laid1 wr _).drew
      have b2 : Below w.heap.size w w2 := HB.out.trans (hb2.mono HB.out.size)
      have HO2 := Lib.hid (HO1.out.after hb2)
      have hn2 : w2.cell? ⟨wr.heap.size, 0, none⟩ = some (.string ((⟨s.toArray⟩ : ByteArray).extract 0 q)) := by rw [← hal]; exact ((HasCells.new wr [.string ((⟨s.toArray⟩ : ByteArray).extract 0 q)] 9).kept rfl : HasCells (wr.alloc (.cells #[.string ((⟨s.toArray⟩ : ByteArray).extract 0 q)] 9)).drew _ _ _).cell (j := 0) rfl
      rw [HX.out] at hn2
      have HN2 := Lib.hid hn2
      have HB2 := Lib.hid b2
      rw [hal]
      clear hal hn2 b2 hb2
      refine hK.out _ _ (HS.out _ HB2.out) (fun hHeld => ?_)
      clear hK K
      try simp only [Act.put, List.getElem_toArray, List.getElem_cons_zero, List.getElem_cons_succ, List.setIfInBounds_toArray, List.set_cons_zero, List.set_cons_succ]
      refine wpAnyH_ready (rs := [13]) (by kernel_rfl) (by simp) ?_
      refine AllReadyH.cons rfl (fun K hK => ?_) AllReadyH.nil
      refine step_appendTs (by rfl) _ _ 23 rfl w.heap.size Tryd.underlying23 infoStr _ L rfl HO2.out ⟨wr.heap.size, 0, none⟩ 1 1 [⟨(s.take 3000).toArray⟩] rfl rfl ?f0 ?f1 ?f2 ?_
      case f0 => exact fun j u hu => one_at hu (by rintro rfl rfl; exact HN2.out)
      case f1 => rw [HLL.out]; omega
      case f2 => exact HB2.out.size
      intro v3 w3 ho3 hg3 _
      have b3 : Below w.heap.size w w3 := HB2.out.grown hg3 HB2.out.size (fun q e => (HO2.out.lt q e).1)
      have ho3b : OwnS w.heap.size w3 v3 (((someT xs).take (k + 1)).map bt) := by rw [HTS.out]; exact ho3
      have HO3 := Lib.hid ho3b
      have HB3 := Lib.hid b3
      clear ho3 hg3 ho3b b3
      refine hK.out _ _ (HS.out _ HB3.out) (fun hHeld => ?_)
      clear hK K
      try simp only [Act.put, List.getElem_toArray, List.getElem_cons_zero, List.getElem_cons_succ, List.setIfInBounds_toArray, List.set_cons_zero, List.set_cons_succ]
      refine wpAnyH_take (i := 14) (v := ?_) rfl (by kernel_rfl) (by kernel_rfl) (by kernel_rfl) (fun _ _ _ h => h) (.inl ⟨by rfl, ?_⟩) (by assumption) ?_
      rotate_left 1
      · intro w0 hSw
        go_simp <;> with_reducible rfl
      try simp only [Act.put, List.getElem_toArray, List.getElem_cons_zero, List.getElem_cons_succ, List.setIfInBounds_toArray, List.set_cons_zero, List.set_cons_succ]
      refine wpAnyH_done (by kernel_rfl) ?_ 0
      go_wp2_with fail
      go_roundw
      case rel => exact ⟨k + 1, by omega, by go_num, HO3.out, HB3.out⟩
      case measure => simp [RowKit.intOf]; omega
    · have hmk : k = m := by omega
      subst hmk
      have ho := HO.out
      rw [List.take_of_length_le (by rw [HM.out]; exact Nat.le_refl _)] at ho
      obtain ⟨pv, cv, hv⟩ := ho.form
      rw [List.length_map, HM.out] at hv
      subst hv
      have HO1 := Lib.hid ho
      clear ho HO
      by_cases hkn : k < n
      · have g2 : (k : Int) < n := by omega
        have g3 : ¬ (k : Int) < 40 := by have := HMN.out; omega
        go_wp2
        go_ret
        exact ⟨_, _, rfl, HO1.out, HB.out⟩
      · have g2 : ¬ (k : Int) < n := by omega
        go_wp2
        go_ret
        exact ⟨_, _, rfl, HO1.out, HB.out⟩
end Go.Proofs.YthicdhnjincflaaDoor

/- pharoslaw07's shown holds; rows of texts that a call owns, behind each other. -/
namespace Go.Proofs.YthicdhnjincflaaDoor
open Go.RowKit Go.Shelf Go.Lib
attribute [local go_sem] Oper.semAt_some

theorem OwnS.forms {base : Nat} {w : World} {v : Value} {l : List ByteArray} (h : OwnS base w v l) : (v = .slice none 0 0 ∧ l = []) ∨ ∃ g c, v = .slice (some ⟨g, 0, none⟩) l.length c := by
  obtain ⟨h1, h2⟩ := h
  rcases h2 with ⟨h2, h3⟩ | ⟨g, cap, cur, hv, _⟩
  · exact .inl ⟨h2, List.eq_nil_of_length_eq_zero h3⟩
  · exact .inr ⟨g, cap, hv⟩
theorem OwnS.lit (w : World) (base : Nat) (l : List ByteArray) (hb : base ≤ w.heap.size) (hn : l.length ≤ 1099511627776) : OwnS base (w.alloc (.cells (l.map Value.string).toArray 9)) (.slice (some ⟨w.heap.size, 0, none⟩) l.length l.length) l := by
  have h := World.ownsRow_lit (e := 9) (size := 1) w (l.map Value.string).toArray l.length hb (by unfold maxLen; omega) (by simp)
  unfold OwnS
  simpa using h
theorem OwnS.drew {base : Nat} {w : World} {v : Value} {l : List ByteArray} (h : OwnS base w v l) : OwnS base w.drew v l := h
/-- 'append(l, m..)' of two such rows -/
theorem wpList_appendO {ops : Array Oper} {rest : List Oper} {o : Oper} {a : Act} {w : World} {Q : Exit → Act → World → Prop} (hgd : o.guard = none) (s x : Operand) (t : TypeId)
    (ho : o.op = .call { callee := .builtin .append, args := #[s, x], argTypes := #[t, t] })
    (base : Nat) (ht : Tryd.prog.underlying t = some (.slice 9))
    (v : Value) (l : List ByteArray) (hs : a.eval s = v) (hown : OwnS base w v l)
    (b2 : Nat) (vx : Value) (news : List ByteArray) (hx : a.eval x = vx) (hox : OwnS b2 w vx news)
    (h63 : l.length + news.length ≤ 1099511627776) (hbase : base ≤ w.heap.size)
    (h : ∀ v' w', OwnS base w' v' (l ++ news) → w.grownBy w' v.ownBlock → wpList Tryd.prog ops Q rest (a.put o.dst v') w') : wpList Tryd.prog ops Q (o :: rest) a w := by
  rcases hox.forms with ⟨rfl, rfl⟩ | ⟨g, c, rfl⟩
  · obtain ⟨i0, hi0, hz0, hz1, hz2⟩ := info_parts infoStr
    refine wpList_append_own_none hgd s x t ho base 9 i0 1 ht hi0 v l.length (l.map Value.string) hs hown hx ?_
    exact h v w (by rw [List.append_nil]; exact hown) ⟨rfl, rfl, rfl, Nat.le_refl _, fun _ _ _ => rfl⟩
  · refine wpList_appendTs hgd s x t ho base ht infoStr v l hs hown ⟨g, 0, none⟩ news.length c news hx rfl (fun j y hy => ?_) h63 hbase (fun v' w' h1 h2 _ => h v' w' h1 h2)
    obtain ⟨p, c', hv, _, h4⟩ := hox.strs
    cases hv
    rcases h4 with h4 | ⟨bk, o, h5, _, h6⟩
    · rw [h4] at hy; cases hy
    · cases h5
      have := h6 j y hy
      rw [addr_add]
      simpa using this
set_option maxRecDepth 100000 in
set_option maxHeartbeats 6400000 in
theorem shown07_any (w : World) (hK : KecT w) : Calls Tryd.prog 13 #[] w fun e w' => e = .returned (.bool true) ∧ Below w.heap.size w w' := by
  obtain ⟨rt, hrt⟩ : ∃ x, rootP keccakL fourP = x := ⟨_, rfl⟩
  obtain ⟨wd, hwd⟩ : ∃ x, wayP keccakL 129 fourP 0 (halves [100, 111, 103]) = x := ⟨_, rfl⟩
  obtain ⟨wc, hwc⟩ : ∃ x, wayP keccakL 129 fourP 0 (halves [99, 97, 116]) = x := ⟨_, rfl⟩
  have hl1 : wd.length ≤ 129 := by rw [← hwd]; exact four_way_len _
  have hl2 : wc.length ≤ 129 := by rw [← hwc]; exact four_way_len _
  have k1 := four_dog
  have k2 := four_cat
  have k3 := four_more
  rw [hrt, hwd] at k1 k3
  rw [hrt, hwc] at k2
  have HR : Hid (∀ v W, Pairs W v fourP → Calls Tryd.prog 18 #[v] W fun e w' => e = .returned (.tuple #[.string ⟨rt.toArray⟩, .int .i64 0]) ∧ Below W.heap.size W w') := Lib.hid fun v W hp => by
    have h := rootRef_any fourP v W hp (by decide)
    rw [four_root, hrt] at h
    exact h
  have HD : Hid (∀ v W, Pairs W v fourP → Calls Tryd.prog 35 #[v, .string ⟨#[100, 111, 103]⟩] W (TextsR W wd 0)) := Lib.hid fun v W hp => by
    have h := proveRef_any fourP [100, 111, 103] v W hp (by decide) (by decide)
    rw [four_prove, hwd] at h
    exact h
  have HCT : Hid (∀ v W, Pairs W v fourP → Calls Tryd.prog 35 #[v, .string ⟨#[99, 97, 116]⟩] W (TextsR W wc 0)) := Lib.hid fun v W hp => by
    have h := proveRef_any fourP [99, 97, 116] v W hp (by decide) (by decide)
    rw [four_prove, hwc] at h
    exact h
  have H1 : Hid (∀ v W, Strs W v (wd.map bt) → KecT W → Calls Tryd.prog 14 #[.string ⟨rt.toArray⟩, .string ⟨#[100, 111, 103]⟩, v] W fun e w' => e = .returned (.tuple #[.string ⟨#[112, 117, 112, 112, 121]⟩, .bool true, .int .i64 0]) ∧ Below W.heap.size W w') := Lib.hid fun v W hv hk => by
    have h := check_any rt [100, 111, 103] wd v W hv (by omega) hk
    rw [k1] at h
    exact h
  have H2 : Hid (∀ v W, Strs W v (wc.map bt) → KecT W → Calls Tryd.prog 14 #[.string ⟨rt.toArray⟩, .string ⟨#[99, 97, 116]⟩, v] W fun e w' => e = .returned (.tuple #[.string ⟨#[]⟩, .bool false, .int .i64 0]) ∧ Below W.heap.size W w') := Lib.hid fun v W hv hk => by
    have h := check_any rt [99, 97, 116] wc v W hv (by omega) hk
    rw [k2] at h
    exact h
  have H3 : Hid (∀ v W, Strs W v (wd.map bt ++ [⟨#[120]⟩]) → KecT W → Calls Tryd.prog 14 #[.string ⟨rt.toArray⟩, .string ⟨#[100, 111, 103]⟩, v] W fun e w' => e = .returned (.tuple #[.string ⟨#[]⟩, .bool false, .int .i64 70]) ∧ Below W.heap.size W w') := Lib.hid fun v W hv hk => by
    have h := check_any rt [100, 111, 103] (wd ++ [[120]]) v W (by rw [List.map_append]; exact hv) (by simp; omega) hk
    rw [k3] at h
    exact h
  have HKT := Lib.hid hK
  have HL1 := Lib.hid hl1
  clear hrt hwd hwc k1 k2 k3 hK hl1 hl2
  go_enter Tryd.func13, Tryd.ntmps13
  go_wp2_with fail
  refine (four_any _).mono ?_
  rintro e w1 ⟨⟨v1, rfl, hp1⟩, hb1⟩
  have HB1 := Lib.hid hb1
  have HP1 := Lib.hid hp1
  clear hb1 hp1
  go_wp2_with fail
  refine (HR.out _ _ HP1.out).mono ?_
  rintro e w2 ⟨rfl, hb2⟩
  have HB2 := Lib.hid (HB1.out.trans (hb2.mono HB1.out.size))
  clear hb2 HP1 HB1
  go_wp2_with fail
  refine (four_any _).mono ?_
  rintro e w3 ⟨⟨v3, rfl, hp3⟩, hb3⟩
  have HB3 := Lib.hid (HB2.out.trans (hb3.mono HB2.out.size))
  have HP3 := Lib.hid hp3
  clear hb3 hp3 HB2
  go_wp2_with fail
  refine (HD.out _ _ HP3.out).mono ?_
  rintro e w4 ⟨p4, c4, rfl, ho4, hb4⟩
  have HB4 := Lib.hid (HB3.out.trans (hb4.mono HB3.out.size))
  have HO4 := Lib.hid (OwnS.base ho4 HB3.out.size)
  clear hb4 ho4 HP3 HB3
  go_wp2_with fail
  refine (H1.out _ _ HO4.out.strs (HKT.out.belowP HB4.out)).mono ?_
  rintro e w5 ⟨rfl, hb5⟩
  have HB5 := Lib.hid (HB4.out.trans (hb5.mono HB4.out.size))
  have HO5 := Lib.hid (HO4.out.after hb5)
  clear hb5 HO4 HB4
  go_wp2_with fail
  refine (four_any _).mono ?_
  rintro e w6 ⟨⟨v6, rfl, hp6⟩, hb6⟩
  have HB6 := Lib.hid (HB5.out.trans (hb6.mono HB5.out.size))
  have HO6 := Lib.hid (HO5.out.after hb6)
  have HP6 := Lib.hid hp6
  clear hb6 hp6 HB5 HO5
  go_wp2_with fail
  refine (HCT.out _ _ HP6.out).mono ?_
  rintro e w7 ⟨p7, c7, rfl, ho7, hb7⟩
  have HB7 := Lib.hid (HB6.out.trans (hb7.mono HB6.out.size))
  have HO7 := Lib.hid (HO6.out.after hb7)
  have HS7 := Lib.hid ho7.strs
  clear hb7 ho7 HP6 HB6 HO6
  go_wp2_with fail
  refine (H2.out _ _ HS7.out (HKT.out.belowP HB7.out)).mono ?_
  rintro e w8 ⟨rfl, hb8⟩
  have HB8 := Lib.hid (HB7.out.trans (hb8.mono HB7.out.size))
  have HO8 := Lib.hid (HO7.out.after hb8)
  clear hb8 HB7 HO7 HS7
  go_wp2_with (at_builtin; refine wpList_appendT rfl _ _ 23 rfl w.heap.size Tryd.underlying23 infoStr _ (wd.map bt) rfl (HO8.out.after (laid1 w8 _)) ⟨w8.heap.size, 0, none⟩ 1 ⟨#[120]⟩ rfl ?c0 ?c1 ?c2 ?_)
  case c0 => exact cells_new_at rfl [.string ⟨#[120]⟩] 9 0 _ rfl
  case c1 => rw [List.length_map]; have := HL1.out; omega
  case c2 => have := HB8.out.size; simp; omega
  intro v9 w9 ho9 hg9
  have hb9 : Below w.heap.size w w9 := (HB8.out.alloc HB8.out.size _).grown hg9 (by have := HB8.out.size; simp; omega) (fun r e => (HO8.out.lt r e).1)
  have HS9 := Lib.hid ho9.strs
  have HB9 := Lib.hid hb9
  clear ho9 hg9 hb9 HO8 HB8
  go_wp2_with fail
  refine (H3.out _ _ HS9.out (HKT.out.belowP HB9.out)).mono ?_
  rintro e w10 ⟨rfl, hb10⟩
  have HB10 := Lib.hid (HB9.out.trans (hb10.mono HB9.out.size))
  clear hb10 HB9 HS9
  go_wp2_with fail
  go_ret
  exact ⟨rfl, HB10.out⟩
end Go.Proofs.YthicdhnjincflaaDoor
