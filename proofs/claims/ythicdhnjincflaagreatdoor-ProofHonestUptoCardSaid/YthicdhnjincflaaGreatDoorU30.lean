/- What the walks take: TrgE, TrgR. -/
import Derived.Test.YthicdhnjincflaaGreatDoorU0
import Derived.Test.YthicdhnjincflaaGreatDoorU28
import Derived.Test.YthicdhnjincflaaGreatDoorU29
import Derived.Test.YthicdhnjincflaaGreatDoorShelfS
namespace Go.Proofs.YthicdhnjincflaaGreatDoor
open Go.RowKit Go.Shelf Go.Lib
attribute [local go_sem] Oper.semAt_some
theorem less_trans {a b c : List UInt8} (h1 : Op.bytesLess a b = true) (h2 : Op.bytesLess b c = true) : Op.bytesLess a c = true := by
  induction a generalizing b c with
  | nil =>
    cases b with
    | nil => simp [Op.bytesLess] at h1
    | cons y b =>
      cases c with
      | nil => simp [Op.bytesLess] at h2
      | cons z c => rfl
  | cons x a ih =>
    cases b with
    | nil => simp [Op.bytesLess] at h1
    | cons y b =>
      cases c with
      | nil => simp [Op.bytesLess] at h2
      | cons z c =>
        simp only [Op.bytesLess, Bool.or_eq_true, Bool.and_eq_true, decide_eq_true_eq, beq_iff_eq] at h1 h2 ⊢
        rcases h1 with h1 | ⟨rfl, h1⟩
        · rcases h2 with h2 | ⟨rfl, h2⟩
          · exact .inl (UInt8.lt_trans h1 h2)
          · exact .inl h1
        · rcases h2 with h2 | ⟨rfl, h2⟩
          · exact .inl h2
          · exact .inr ⟨rfl, ih h1 h2⟩
theorem less_ntrans {a b c : List UInt8} (h1 : Op.bytesLess a b = false) (h2 : Op.bytesLess b c = false) : Op.bytesLess a c = false := by
  induction a generalizing b c with
  | nil =>
    cases c with
    | nil => rfl
    | cons z c =>
      cases b with
      | nil => simp [Op.bytesLess] at h2
      | cons y b => simp [Op.bytesLess] at h1
  | cons x a ih =>
    cases c with
    | nil => rfl
    | cons z c =>
      cases b with
      | nil => simp [Op.bytesLess] at h2
      | cons y b =>
        simp only [Op.bytesLess, Bool.or_eq_false_iff, Bool.and_eq_false_iff, decide_eq_false_iff_not, beq_eq_false_iff_ne] at h1 h2 ⊢
        obtain ⟨h3, h4⟩ := h1
        obtain ⟨h5, h6⟩ := h2
        have h3 := UInt8.not_lt.1 h3
        have h5 := UInt8.not_lt.1 h5
        refine ⟨UInt8.not_lt.2 (UInt8.le_trans h5 h3), ?_⟩
        by_cases hxz : x = z
        · subst hxz
          have hxy : x = y := UInt8.le_antisymm h5 h3
          subst hxy
          right
          exact ih (by rcases h4 with h4 | h4; · exact absurd rfl h4
                       · exact h4) (by rcases h6 with h6 | h6; · exact absurd rfl h6
                                       · exact h6)
        · exact .inl hxz
def cfL (x y : PairD) : Int := cmpB x.1 y.1
theorem ltL (x y : PairD) : ltOf cfL x y = Op.bytesLess x.1 y.1 := by
  unfold ltOf cfL cmpB
  cases Op.bytesLess x.1 y.1 with
  | true => rfl
  | false =>
    rw [if_neg (by simp)]
    split <;> rfl
theorem swoL : Sort.SWO (ltOf cfL) where
  irrefl x := by rw [ltL]; exact less_self _
  trans x y z h1 h2 := by rw [ltL] at *; exact less_trans h1 h2
  ntrans x y z h1 h2 := by rw [ltL] at *; exact less_ntrans h1 h2
def encL (x : PairD) : List Value := [.string ⟨x.1.toArray⟩, .string ⟨x.2.toArray⟩]
set_option maxRecDepth 100000 in
set_option maxHeartbeats 1600000 in
theorem cmpLeaf_any (x y : PairD) (W : World) : Calls Tryz.prog 32 #[.agg #[.string ⟨x.1.toArray⟩, .string ⟨x.2.toArray⟩], .agg #[.string ⟨y.1.toArray⟩, .string ⟨y.2.toArray⟩]] W fun e w' => e = .returned (.int .i64 (cmpB x.1 y.1)) ∧ ∃ q os', w' = Sort.grow (W.drewN q) os' := by
  have H1 := Lib.hid (fun w => compare_any x.1 y.1 w)
  obtain ⟨r, hr⟩ : ∃ r, cmpB x.1 y.1 = r := ⟨_, rfl⟩
  rw [hr] at H1 ⊢
  go_enter Tryz.func32, Tryz.ntmps32
  go_wp2_with fail
  refine (H1.out _).mono ?_
  rintro e w1 ⟨rfl, rfl⟩
  go_wp2_with fail
  go_ret
  exact ⟨rfl, 0, _, by rw [Sort.alloc_eq_grow, Sort.alloc_eq_grow, Sort.grow_grow]; rfl⟩
theorem below_sort {B : Nat} {w : World} {blk n : Nat} {d : Array PairD} {os : Array Obj} (hB : B ≤ blk) (hb : blk < w.heap.size) : Below B w (sortWorldK encL 2 w blk 0 n d os) := by
  have hs : (sortWorldK encL 2 w blk 0 n d os).heap = (w.heap.modify blk (Sort.onCells (Sort.putCells id 0 (Sort.flatK encL 2 d)))) ++ os := rfl
  refine ⟨rfl, rfl, rfl, by rw [hs]; simp, fun k hk => ?_⟩
  rw [hs, Array.getElem?_append_left (by simp; omega), Array.getElem?_modify, if_neg (by omega)]
set_option maxRecDepth 100000 in
set_option maxHeartbeats 3200000 in
theorem sortLeaf_any (ls : List PairD) (g c : Nat) (base : Nat) (w : World) (hv : OwnF base w (.slice (some ⟨g, 0, none⟩) ls.length c) ls) (hN : ls.length ≤ 1099511627775) :
    Calls Tryz.prog 31 #[.slice (some ⟨g, 0, none⟩) ls.length c, .func (.func 32) #[] #[]] w fun e w' => e = .returned (.tuple #[]) ∧ ∃ ls' : List PairD, ls'.Perm ls ∧ (ls'.Pairwise fun a b => Op.bytesLess b.1 a.1 = false) ∧ Pairs w' (.slice (some ⟨g, 0, none⟩) ls.length c) ls' ∧ Below base w w' := by
  have hlt := hv.lt g rfl
  have hcap : ls.length ≤ c := by
    obtain ⟨_, h2⟩ := hv
    rcases h2 with ⟨h2, _⟩ | ⟨g', cap, cur, hv', _, _, h3, _⟩
    · cases h2
    · cases hv'; exact h3
  have hH : Sort.HoldsK encL 2 w g 0 ls.toArray := by
    intro j hj
    rw [Sort.size_flatK] at hj
    have hj2 : j < ls.length * 2 := by simpa using hj
    have e1 := World.ownsRow.cellAt hv j hj2
    refine ⟨?_, ?_⟩
    · rw [Nat.zero_add, e1, Sort.get_flatK _ _ _ _ (by simpa using hj2)]
      have hi : j / 2 < ls.length := by omega
      have hq : ls[j / 2]? = some ls[j / 2] := List.getElem?_eq_getElem hi
      have e2 := pairCells_at ls (j / 2) (j % 2) _ hq (Nat.mod_lt _ (by omega))
      rw [Nat.mul_comm, Nat.div_add_mod] at e2
      rw [e2, getElem!_pos ls.toArray (j / 2) (by simpa using hi)]
      have hm : j % 2 < 2 := Nat.mod_lt _ (by omega)
      show ([Value.string _, Value.string _] : List Value)[j % 2]? = some (id (([Value.string _, Value.string _] : List Value)[j % 2]!))
      generalize j % 2 = m at hm
      match m, hm with
      | 0, _ => rfl
      | 1, _ => rfl
    · rw [Nat.zero_add]; exact World.ownsRow.frozenAt hv j
  have eg : ∀ args w, (callFunc 32 args).run Tryz.prog w = .ok (.enter 32 args) w := enters_of Tryz.func32 (by kernel_rfl) rfl
  have hcon := AnyQ.slices_SortFunc Tryz.sortLeaf 2 Tryz.isAgg69 Tryz.sizeOf69 encL (fun _ => rfl) (fun x v hv => by simp [encL] at hv; rcases hv with rfl | rfl <;> rfl) cfL swoL 32 #[] g 0 c ls.toArray w eg (fun m os dk _ x y => cmpLeaf_any x y _) hH hlt.2 (by simp; omega)
  change Calls Tryz.prog 31 _ _ _ at hcon
  refine hcon.mono ?_
  rintro e w' ⟨rfl, d', n, os, hp, hs, rfl⟩
  obtain ⟨hp1, _, hp3⟩ := hp
  have hsz : d'.size = ls.length := by rw [hp1]; simp
  have hh := holdsK_sortWorldK encL 2 w g 0 n ls.toArray d' os hlt.2 hH hp1
  refine ⟨rfl, d'.toList, ?_, ?_, ⟨_, c, by show Value.slice _ ls.length c = Value.slice _ d'.size c; rw [hsz], by rw [Array.length_toList, hsz]; exact hcap, .inr ⟨g, 0, rfl, ?_, fun j q hq => ?_⟩⟩, below_sort hlt.1 hlt.2⟩
  · rw [show ls.toArray.size = d'.size from hp1.symm] at hp3
    have h := hp3
    simp at h
    rw [hsz, List.take_length] at h
    exact h
  · rw [List.pairwise_iff_getElem]
    intro i j hi hj hij
    rw [Array.length_toList] at hi hj
    have h := hs i j (Nat.zero_le _) hij (by rw [← hp1]; exact hj)
    rw [ltL, getElem!_pos d' j hj, getElem!_pos d' i hi] at h
    exact h
  · exact lt_sortWorldK encL 2 w g 0 n d' os hlt.2
  · rw [Array.getElem?_toList] at hq
    obtain ⟨hj, hq⟩ := Array.getElem?_eq_some_iff.1 hq
    have h0 := (hh.cell (i := j) (c := 0) hj (by omega)).1
    have h1 := (hh.cell (i := j) (c := 1) hj (by omega)).1
    rw [getElem!_pos d' j hj, hq] at h0 h1
    exact ⟨h0, h1⟩
end Go.Proofs.YthicdhnjincflaaGreatDoor

namespace Go.Proofs.YthicdhnjincflaaGreatDoor
open Go.RowKit Go.Shelf Go.Lib
attribute [local go_sem] Oper.semAt_some
def backQ (x : PairD) : PairD := (pairUp x.1, x.2)
theorem back_cut (q : PairD) : backQ (cutQ 0 q) = q := by
  unfold backQ cutQ
  rw [List.drop_zero]
  show (pairUp (halves q.1), q.2) = q
  rw [pairUp_halves]
theorem perm_cut {ps ls : List PairD} (h : ls.Perm (ps.map (cutQ 0))) : (ls.map backQ).Perm ps ∧ (ls.map backQ).map (cutQ 0) = ls := by
  have h1 := h.map backQ
  rw [List.map_map, show (backQ ∘ cutQ 0) = id from funext back_cut, List.map_id] at h1
  refine ⟨h1, ?_⟩
  rw [List.map_map]
  conv => rhs; rw [← List.map_id ls]
  refine List.map_congr_left fun x hx => ?_
  obtain ⟨q, _, rfl⟩ := List.mem_map.1 (h.subset hx)
  show cutQ 0 (backQ (cutQ 0 q)) = cutQ 0 q
  rw [back_cut]
theorem asc_cut {ls : List PairD} (h : ls.Pairwise fun a b => Op.bytesLess b.1 a.1 = false) (h2 : (ls.map backQ).map (cutQ 0) = ls) : Asc (ls.map backQ) := by
  unfold Asc
  rw [← h2, List.pairwise_map] at h
  refine h.imp fun {a b} h3 => ?_
  have e : ∀ q : PairD, (cutQ 0 q).1 = pth q := fun q => List.drop_zero
  rw [e, e] at h3
  exact h3
def RootIs (w : World) (ps : List PairD) (e : Ending) (w' : World) : Prop :=
  Below w.heap.size w w' ∧ ((ps = [] ∧ e = .returned (.pointer none)) ∨ (ps ≠ [] ∧ ∃ g qs, e = .returned (.pointer (some ⟨g, 0, none⟩)) ∧ qs.Perm ps ∧ NodeAt 129 (fun k => w.heap.size ≤ k ∧ k < w'.heap.size) w' qs 0 g))
set_option maxRecDepth 100000 in
set_option maxHeartbeats 6400000 in
theorem trieRoot_any (ps : List PairD) (v : Value) (w : World) (hv : Pairs w v ps) (hr : rightP ps = true) (hK : KecT w) :
    Calls Tryz.prog 18 #[v] w (RootIs w ps) := by
  have hlen : ps.length ≤ 1000 := by have := right_len hr; omega
  have hkl : ∀ q ∈ ps, q.1.length ≤ 64 := fun q hq => by
    have h1 := ((rightP_iff ps).1 hr).2.1 q hq
    unfold okPair at h1
    simp only [Bool.and_eq_true, decide_eq_true_eq] at h1
    exact h1.2.1
  have HKL := Lib.hid hkl
  have HKT := Lib.hid (fun W (hb : Below w.heap.size w W) => hK.belowP hb)
  have HRT := Lib.hid hr
  obtain ⟨p, c, rfl, hc, hcell⟩ := hv
  have HC := Lib.hid hcell
  obtain ⟨n, hn⟩ : ∃ n, ps.length = n := ⟨_, rfl⟩
  rw [hn] at hc hlen ⊢
  have HN := Lib.hid hn
  clear hcell hn hkl hr hK
  go_enter Tryz.func18, Tryz.ntmps18
  go_wp2_with fail
  go_loopw [3, 8] (fun v i wr => ∃ k : Nat, k ≤ n ∧ i = .int .i64 k ∧ Aside (OwnF w.heap.size wr v ((ps.take k).map (cutQ 0))) ∧ Aside (Below w.heap.size w wr)) (fun _ i _ => n - (RowKit.intOf i).toNat)
  case atStart => exact ⟨0, Nat.zero_le _, rfl, OwnF.nil _ _, Below.refl _ _⟩
  case round =>
    obtain ⟨k, hk, rfl, HO, HB⟩ := hrel
    by_cases hlt : k < n
    · obtain ⟨s, hs⟩ : ∃ s, ps[k]? = some s := ⟨_, List.getElem?_eq_getElem (by rw [HN.out]; exact hlt)⟩
      obtain ⟨bk, o, rfl, hbk, hcl⟩ : ∃ bk o, p = some ⟨bk, o, none⟩ ∧ bk < w.heap.size ∧ ∀ (j : Nat) q, ps[j]? = some q → w.cell? ⟨bk, o + j * 2, none⟩ = some (.string ⟨q.1.toArray⟩) ∧ w.cell? ⟨bk, o + j * 2 + 1, none⟩ = some (.string ⟨q.2.toArray⟩) := by
        rcases HC.out with h | ⟨bk, o, h1, h2, h3⟩
        · have h4 := congrArg List.length h
          rw [HN.out] at h4
          simp at h4
          omega
        · exact ⟨bk, o, h1, h2, h3⟩
      have c0 := (HB.out.cell (p := ⟨bk, o + k * 2, none⟩) hbk).trans (hcl k s hs).1
      have c1 := (HB.out.cell (p := ⟨bk, o + k * 2 + 1, none⟩) hbk).trans (hcl k s hs).2
      have hts : (ps.take (k + 1)).map (cutQ 0) = (ps.take k).map (cutQ 0) ++ [cutQ 0 s] := by rw [List.take_add_one, hs]; simp
      have hll : ((ps.take k).map (cutQ 0)).length = k := by rw [List.length_map, List.length_take, HN.out]; omega
      obtain ⟨L, hL⟩ : ∃ L, (ps.take k).map (cutQ 0) = L := ⟨_, rfl⟩
      have ho := HO.out
      rw [hL] at hts hll ho
      obtain ⟨pv, cv, hv⟩ := ho.form
      rw [hll] at hv
      subst hv
      have HLL := Lib.hid hll
      have g1 : (0 : Int) ≤ k := by omega
      have g2 : (k : Int) < n := by omega
      have hcs := HKL.out s (List.mem_of_getElem? hs)
      obtain ⟨ky, vl⟩ := s
      dsimp only at c0 c1 hcs
      rw [show cutQ 0 (ky, vl) = (halves ky, vl) from by unfold cutQ; rw [List.drop_zero]; rfl] at hts
      have HTS := Lib.hid hts
      have HNE := Lib.hid (show (Value.slice pv k cv).ownBlock ≠ some wr.heap.size from fun e => by have := (ho.lt _ e).2; omega)
      have HQ := Lib.hid (HasCells.new wr [.string ⟨ky.toArray⟩, .string ⟨vl.toArray⟩] 40)
      have HBA := Lib.hid (HB.out.alloc HB.out.size (.cells #[.string ⟨ky.toArray⟩, .string ⟨vl.toArray⟩] 40))
      have HO1 := Lib.hid (ho.alloc (.cells #[.string ⟨ky.toArray⟩, .string ⟨vl.toArray⟩] 40))
      have hws := HB.out.size
      have HOF : Hid (∀ W, Calls Tryz.prog 23 #[.string ⟨ky.toArray⟩] W fun e w' => e = .returned (.string ⟨(halves ky).toArray⟩) ∧ Below W.heap.size W w') := Lib.hid fun W => of_any ⟨ky.toArray⟩ W (by show ky.length ≤ _; omega)
      obtain ⟨hk1, hhk⟩ : ∃ l, halves ky = l := ⟨_, rfl⟩
      rw [hhk] at HOF HTS
      clear ho hts hll hL HO hs hcl hcs hhk
      go_wp2_with fail
      obtain ⟨w0, hw0⟩ : ∃ W, wr.alloc (.cells #[.string ⟨ky.toArray⟩, .string ⟨vl.toArray⟩] 40) = W := ⟨_, rfl⟩
      rw [hw0] at HQ HBA HO1 ⊢
      have HSW : Hid (∀ W, Below w0.heap.size w0 W → W.cell? ⟨wr.heap.size, 0, none⟩ = some (.string ⟨ky.toArray⟩) ∧ W.cell? ⟨wr.heap.size, 1, none⟩ = some (.string ⟨vl.toArray⟩)) := Lib.hid fun W hb => ⟨(HQ.out.after hb).cell (j := 0) rfl, (HQ.out.after hb).cell (j := 1) rfl⟩
      have hgs : wr.heap.size < w0.heap.size := by rw [← hw0]; simp
      clear hw0 c0 c1
      refine wp_region_held_drew (S := (fun W => W.cell? ⟨wr.heap.size, 0, none⟩ = some (.string ⟨ky.toArray⟩) ∧ W.cell? ⟨wr.heap.size, 1, none⟩ = some (.string ⟨vl.toArray⟩))) (by kernel_rfl) (HSW.out _ (Below.refl _ _).drew) (fun hHeld => ?_)
      refine wpAnyH_take (i := 0) (v := ?_) rfl (by kernel_rfl) (by kernel_rfl) (by kernel_rfl) (fun _ _ _ h => h) (.inl ⟨by rfl, ?_⟩) (by assumption) ?_
      rotate_left 1
      · intro w0 hSw
        go_simp <;> with_reducible rfl
      try simp only [Act.put, zq1, zq2, zq4, zq5, zq6]
      refine wpAnyH_take (i := 1) (v := ?_) rfl (by kernel_rfl) (by kernel_rfl) (by kernel_rfl) (fun _ _ _ h => h) (.inl ⟨by rfl, ?_⟩) (by assumption) ?_
      rotate_left 1
      · intro w0 hSw
        go_simp <;> with_reducible rfl
      try simp only [Act.put, zq1, zq2, zq3, zq4, zq5, zq6]
      refine wpAnyH_take (i := 2) (v := ?_) rfl (by kernel_rfl) (by kernel_rfl) (by kernel_rfl) (fun _ _ _ h => h) (.inl ⟨by rfl, ?_⟩) (by assumption) ?_
      rotate_left 1
      · intro w0 hSw
        obtain ⟨z0, z1⟩ := hSw
        go_simp <;> with_reducible rfl
      try simp only [Act.put, zq1, zq2, zq3, zq4, zq5, zq6]
      refine wpAnyH_take (i := 4) (v := ?_) rfl (by kernel_rfl) (by kernel_rfl) (by kernel_rfl) (fun _ _ _ h => h) (.inl ⟨by rfl, ?_⟩) (by assumption) ?_
      rotate_left 1
      · intro w0 hSw
        go_simp <;> with_reducible rfl
      try simp only [Act.put, zq1, zq2, zq3, zq4, zq5, zq6]
      refine wpAnyH_take (i := 5) (v := ?_) rfl (by kernel_rfl) (by kernel_rfl) (by kernel_rfl) (fun _ _ _ h => h) (.inl ⟨by rfl, ?_⟩) (by assumption) ?_
      rotate_left 1
      · intro w0 hSw
        obtain ⟨z0, z1⟩ := hSw
        go_simp <;> with_reducible rfl
      try simp only [Act.put, zq1, zq2, zq3, zq4, zq5, zq6]
      refine wpAnyH_ready (rs := [3]) (by kernel_rfl) (by simp) ?_
      refine AllReadyH.cons rfl (fun K hK => ?_) AllReadyH.nil
      go_simp
      go_at_call 23
      refine (HOF.out _).mono ?_
      rintro e w1 ⟨rfl, hb1⟩
      have HB1 := Lib.hid (show Below w0.heap.size w0 w1 from (Below.refl _ _).drew.trans hb1)
      clear hb1
      refine hK.out _ _ (HSW.out _ HB1.out) (fun hHeld => ?_)
      clear hK K
      try simp only [Act.put, zq1, zq2, zq3, zq4, zq5, zq6]
      refine wpAnyH_take (i := 6) (v := ?_) rfl (by kernel_rfl) (by kernel_rfl) (by kernel_rfl) (fun _ _ _ h => h) (.inl ⟨by rfl, ?_⟩) (by assumption) ?_
      rotate_left 1
      · intro w0 hSw
        go_simp <;> with_reducible rfl
      try simp only [Act.put, zq1, zq2, zq3, zq4, zq5, zq6]
      refine wpAnyH_ready (rs := [7]) (by kernel_rfl) (by simp) ?_
      refine AllReadyH.cons rfl (fun K hK => ?_) AllReadyH.nil
      go_simp
      obtain ⟨w2, hal⟩ : ∃ W, (w1.alloc (.cells #[.string ⟨hk1.toArray⟩, .string ⟨vl.toArray⟩] 69)) = W := ⟨_, rfl⟩
      have hb2 : Below w0.heap.size w0 w2 := HB1.out.trans (by rw [← hal]; exact (laid1 w1 _).mono HB1.out.size)
      have b2 : Below w.heap.size w w2 := HBA.out.trans (hb2.mono HBA.out.size)
      have HO2 := Lib.hid (HO1.out.after hb2)
      have HSW2 := Lib.hid (HSW.out _ hb2)
      have hn2 : HasCells w2 w1.heap.size [.string ⟨hk1.toArray⟩, .string ⟨vl.toArray⟩] 69 := by rw [← hal]; exact HasCells.new w1 [.string ⟨hk1.toArray⟩, .string ⟨vl.toArray⟩] 69
      have HN2 := Lib.hid hn2
      have HB2 := Lib.hid b2
      have hs2 := hb2.size
      rw [hal]
      clear hal hn2 b2 hb2
      refine hK.out _ _ (HSW2.out) (fun hHeld => ?_)
      clear hK K
      try simp only [Act.put, zq1, zq2, zq3, zq4, zq5, zq6]
      refine wpAnyH_ready (rs := [8]) (by kernel_rfl) (by simp) ?_
      refine AllReadyH.cons rfl (fun K hK => ?_) AllReadyH.nil
      refine step_appendF (by rfl) _ _ rfl w.heap.size _ L rfl HO2.out ⟨w1.heap.size, 0, none⟩ 1 (hk1, vl) rfl ?f0 ?f1 ?f2 ?_
      case f0 => exact fun j u hu => by rw [addr_add]; exact HN2.out.cell hu
      case f1 => rw [HLL.out]; omega
      case f2 => exact HB2.out.size
      intro v3 w3 ho3 hg3
      have b3 : Below w.heap.size w w3 := HB2.out.grown hg3 HB2.out.size (fun q e => (HO2.out.lt q e).1)
      have ho3b : OwnF w.heap.size w3 v3 ((ps.take (k + 1)).map (cutQ 0)) := by rw [HTS.out]; exact ho3
      have HSW3 : Hid (w3.cell? ⟨wr.heap.size, 0, none⟩ = some (.string ⟨ky.toArray⟩) ∧ w3.cell? ⟨wr.heap.size, 1, none⟩ = some (.string ⟨vl.toArray⟩)) := Lib.hid ⟨hg3.cell HSW2.out.1 (fun e => HNE.out e.symm), hg3.cell HSW2.out.2 (fun e => HNE.out e.symm)⟩
      have HO3 := Lib.hid ho3b
      have HB3 := Lib.hid b3
      clear ho3 hg3 ho3b b3
      refine hK.out _ _ (HSW3.out) (fun hHeld => ?_)
      clear hK K
      try simp only [Act.put, zq1, zq2, zq3, zq4, zq5, zq6]
      refine wpAnyH_take (i := 9) (v := ?_) rfl (by kernel_rfl) (by kernel_rfl) (by kernel_rfl) (fun _ _ _ h => h) (.inl ⟨by rfl, ?_⟩) (by assumption) ?_
      rotate_left 1
      · intro w0 hSw
        go_simp <;> with_reducible rfl
      try simp only [Act.put, zq1, zq2, zq3, zq4, zq5, zq6]
      refine wpAnyH_done (by kernel_rfl) ?_ 0
      go_wp2_with fail
      go_roundw
      case rel => exact ⟨k + 1, by omega, by go_num, HO3.out, HB3.out⟩
      case measure => simp [RowKit.intOf]; omega
    · have hmk : k = n := by omega
      subst hmk
      have ho := HO.out
      rw [List.take_of_length_le (by rw [HN.out]; exact Nat.le_refl _)] at ho
      obtain ⟨pv, cv, hv⟩ := ho.form
      rw [List.length_map, HN.out] at hv
      subst hv
      have HO1 := Lib.hid ho
      by_cases hk0 : k = 0
      · subst hk0
        clear ho HO
        go_wp2
        go_ret
        exact ⟨HB.out, .inl ⟨List.length_eq_zero_iff.1 HN.out, rfl⟩⟩
      have hown := ho.lt
      have hne : ps ≠ [] := fun e => by have := HN.out; rw [e] at this; simp at this; omega
      obtain ⟨gg, rfl⟩ : ∃ g, pv = some ⟨g, 0, none⟩ := by
        obtain ⟨_, ⟨h1, h2⟩ | ⟨g, cap, cur, h1, _⟩⟩ := ho
        · rw [List.length_map, HN.out] at h2; omega
        · cases h1; exact ⟨g, rfl⟩
      have g0 : ¬ ((k : Int) = 0) := by omega
      have g00 : ((k : Int) == 0) = false := by simp; omega
      have HSO : Hid (∀ W, Below wr.heap.size wr W → Calls Tryz.prog 31 #[.slice (some ⟨gg, 0, none⟩) k cv, .func (.func 32) #[] #[]] W fun e w' => e = .returned (.tuple #[]) ∧ ∃ ls' : List PairD, ls'.Perm (ps.map (cutQ 0)) ∧ (ls'.Pairwise fun a b => Op.bytesLess b.1 a.1 = false) ∧ Pairs w' (.slice (some ⟨gg, 0, none⟩) k cv) ls' ∧ Below w.heap.size W w') := Lib.hid fun W hb => by
        have h := sortLeaf_any (ps.map (cutQ 0)) gg cv w.heap.size W (by rw [List.length_map, HN.out]; exact ho.after hb) (by rw [List.length_map, HN.out]; omega)
        rw [List.length_map, HN.out] at h
        exact h
      clear ho HO
      go_wp2_with fail
      refine (HSO.out _ (Below.refl _ _)).mono ?_
      rintro e w1 ⟨rfl, ls, hp1, hp2, hp3, hb1⟩
      obtain ⟨hq1, hq2⟩ := perm_cut hp1
      have hasc := asc_cut hp2 hq2
      obtain ⟨qs, hqs⟩ : ∃ qs, ls.map backQ = qs := ⟨_, rfl⟩
      rw [hqs] at hq1 hq2 hasc
      rw [← hq2] at hp3
      have hrq : rightP qs = true := (right_perm hq1).trans HRT.out
      have hqne : qs ≠ [] := fun e => hne (List.nil_perm.1 (e ▸ hq1))
      have hB1 := HB.out.trans hb1
      obtain ⟨hval, hfa⟩ := right_valid hrq hqne
      have HGR := Lib.hid (grow_all 129 qs 0 _ w1 hasc (right_even hrq) hval hfa ((rightP_iff qs).1 hrq).2.2 (by have := right_len hrq; omega) (by omega) (HKT.out w1 hB1) hp3)
      have HB1 := Lib.hid hB1
      have HPM := Lib.hid hq1
      clear hp1 hp2 hp3 hb1 hq1 hq2 hasc hqs hrq hqne hB1 hval hfa hown
      go_wp2_with fail
      refine HGR.out.mono ?_
      rintro e w2 ⟨g, rfl, hn, hb⟩
      have HNO := Lib.hid hn
      have HB2 := Lib.hid (HB1.out.trans (hb.mono HB1.out.size))
      clear hn hb
      go_wp2
      go_ret
      exact ⟨HB2.out, .inr ⟨hne, g, qs, rfl, HPM.out, HNO.out.kept (fun _ _ => rfl) (fun k hk => ⟨Nat.le_trans HB1.out.size hk.1, hk.2⟩)⟩⟩
end Go.Proofs.YthicdhnjincflaaGreatDoor
