/- The walk of the iterator of ssz.levels. -/
import Derived.Test.YtpfmdhcmhcoddaaGreatDoorSszC
namespace Go.Proofs.YtpfmdhcmhcoddaaGreatDoor
open Go.RowKit Go.Shelf Go.Lib
attribute [local go_sem] Oper.semAt_some

/-- an element: the slice's value, the level, what stands where none is -/
abbrev Lv := Value × List ByteArray × ByteArray
def encL (x : Lv) : Array Value := #[x.1, .string x.2.2]
/-- what the iterator turns between two rounds: cells of blocks from B on -/
def StepL (B : Nat) (A A' : World) : Prop := Below B A A' ∧ ∀ (k : Nat) (o : Obj), B ≤ k → A.heap[k]? = some o → o.isCells = false → A'.heap[k]? = some o
theorem StepL.refl (B : Nat) (W : World) : StepL B W W := ⟨Below.refl _ _, fun _ _ _ h _ => h⟩
theorem StepL.trans {B : Nat} {X Y Z : World} (h : StepL B X Y) (k : StepL B Y Z) : StepL B X Z := ⟨h.1.trans k.1, fun i o hB hi ho => k.2 i o hB (h.2 i o hB hi ho) ho⟩
theorem StepL.below {B : Nat} {X Y : World} (h : Below X.heap.size X Y) (hB : B ≤ X.heap.size) : StepL B X Y := ⟨h.mono hB, fun k _ _ hk _ => (h.block k (Array.getElem?_eq_some_iff.1 hk).1).trans hk⟩
theorem StepL.grown {B : Nat} {X Y : World} {row : Option Nat} (hg : X.grownBy Y row) (hB : B ≤ X.heap.size) (hr : ∀ r, row = some r → B ≤ r ∧ ∃ o : Obj, X.heap[r]? = some o ∧ o.isCells = true) : StepL B X Y :=
  ⟨(Below.refl _ _).grown hg hB (fun r e => (hr r e).1), fun k _ _ hk ho => (hg.block k (Array.getElem?_eq_some_iff.1 hk).1 (fun e => by
    obtain ⟨_, o', ho', hc⟩ := hr k e.symm
    rw [hk] at ho'; cases ho'; rw [ho] at hc; cases hc)).trans hk⟩
/-- what a round keeps -/
def KeptL (B : Nat) (W W' : World) : Prop := W.heap.size ≤ W'.heap.size ∧ (∀ (k : Nat) (o : Obj), B ≤ k → W.heap[k]? = some o → o.isCells = true → W'.heap[k]? = some o) ∧ (KTab W → KTab W')
theorem OwnS.keptL {B : Nat} {w w' : World} {v : Value} {l : List ByteArray} (h : OwnS B w v l) (hk : KeptL B w w') : OwnS B w' v l := h.of_block (fun k e => by
  obtain ⟨o, ho, hc⟩ := h.cellsAt e
  rw [ho]; exact hk.2.1 k o (h.lt k e).1 ho hc)
theorem evened_mem {z x : ByteArray} {l : List ByteArray} (h : x ∈ evened z l) : x ∈ l ∨ x = z := by
  unfold evened at h
  by_cases h2 : l.length % 2 = 1
  · rw [if_pos h2] at h
    rcases List.mem_append.1 h with h | h
    · exact .inl h
    · exact .inr (by simpa using h)
  · rw [if_neg h2] at h; exact .inl h
theorem KTab.belowB {B : Nat} {w W : World} (h : KTab w) (hb : Below B w W) (hk : 4 < B) : KTab W := fun t ht => (hb.cell (p := ⟨4, t, none⟩) hk).trans (h t ht)
theorem levelsB_length (d : Nat) (l : List ByteArray) (z : ByteArray) : (levelsB d l z).length = d + 1 := by
  induction d generalizing l z with
  | zero => rfl
  | succ d ih => simp [levelsB, ih]
theorem size_hash2 (a b : ByteArray) : (hash2 a b).size = (shaOf (a.data.toList ++ b.data.toList)).length := by unfold hash2; simp [ByteArray.size]
theorem bytes32_length (x : UInt32) : (bytes32 x).length = 4 := rfl
theorem shaOf_length (s : List UInt8) : (shaOf s).length = 32 := by
  unfold shaOf sumOf St.list
  simp [bytes32_length]
theorem hash2_size (a b : ByteArray) : (hash2 a b).size = 32 := by rw [size_hash2, shaOf_length]
/-- Sum of two texts that were just laid -/
theorem sum2_any (a b : ByteArray) (W W' : World) (hW : W' = W.alloc (.cells #[.string a, .string b] 9) ∨ W' = (W.alloc (.cells #[.string a, .string b] 9)).drew) (ha : a.size ≤ 1048576) (hb : b.size ≤ 1048576) (hK : KTab W) :
    Calls Tryz.prog 116 #[.slice (some ⟨W.heap.size, 0, none⟩) 2 2] W' fun e w' => e = .returned (.string (hash2 a b)) ∧ Below W'.heap.size W' w' := by
  have hs0 : Strs (W.alloc (.cells #[.string a, .string b] 9)) (.slice (some ⟨W.heap.size, 0, none⟩) 2 2) [a, b] := by
    refine ⟨_, 2, rfl, by simp, .inr ⟨W.heap.size, 0, rfl, by simp, fun j x hx => ?_⟩⟩
    match j, hx with
    | 0, hx => cases hx; simp
    | 1, hx => cases hx; simp
  have hK0 : KTab (W.alloc (.cells #[.string a, .string b] 9)) := hK.below ((Below.refl _ _).alloc (Nat.le_refl _) _)
  have hs : Strs W' (.slice (some ⟨W.heap.size, 0, none⟩) 2 2) [a, b] := by rcases hW with rfl | rfl <;> exact hs0
  have hK' : KTab W' := by rcases hW with rfl | rfl <;> exact hK0
  have hla : a.data.toList.length = a.size := rfl
  have hlb : b.data.toList.length = b.size := rfl
  have e : lettersOf [a, b] = a.data.toList ++ b.data.toList := by simp [lettersOf]
  have := shaSum_any _ [a, b] W' hs (by simp) (by rw [e, List.length_append]; omega) hK'
  rw [e] at this
  exact this

set_option maxRecDepth 100000 in
set_option maxHeartbeats 6400000 in
theorem levels_body (n : Nat) (hn : 1 ≤ n) (l B b1 b2 : Nat) (v0 : Value) (xs : List ByteArray) (d : Nat) (hd : d ≤ 10) (hx : xs.length ≤ 1048576) (hxs : ∀ x ∈ xs, x.size ≤ 1048576)
    (J Jx : List Lv → World → Prop) (hJ : ∀ pre W0 W1, J pre W0 → StepL B W0 W1 → J pre W1)
    (hY : ∀ pre x W1, J pre W1 → Strs W1 x.1 x.2.1 → x.2.1.length ≤ 1048576 → YieldAt Fence.wide (n - 1) Tryz.prog l (encL x) W1 fun e W' =>
      (e = .returned (.bool true) ∧ J (pre ++ [x]) W' ∧ KeptL B W1 W') ∨ (e = .returned (.bool false) ∧ Jx (pre ++ [x]) W'))
    (W : World) (hB : B ≤ W.heap.size) (hb1 : Boxed W b1 27 v0) (hb2 : Boxed W b2 3 (.int .i64 d)) (hkB : 4 < B) (hv : Strs W v0 xs) (hK : KTab W) (h0 : J [] W) :
    CallsIn Fence.wide n Tryz.prog 232 #[.func (.yield l) #[] #[], .pointer (some ⟨b1, 0, none⟩), .pointer (some ⟨b2, 0, none⟩)] W fun e W' => (∃ v, e = .returned v) ∧
      ((∃ ys, ys.map (·.2) = levelsB d xs noughtB ∧ J ys W') ∨ (∃ pre, Jx pre W')) := by
  have hcl : ∀ W1, Below W.heap.size W W1 → Calls Tryz.prog 233 #[v0] W1 fun e w' => ∃ v', e = .returned v' ∧ OwnS W1.heap.size w' v' xs ∧ Below W1.heap.size W1 w' :=
    fun W1 hb => clone_any v0 xs W1 (hv.below hb) hx
  refine callsIn_of_wp Tryz.func232 rfl trivial ?_ rfl
  simp only [Tryz.ntmps232, List.size_toArray, List.length_cons, List.length_nil, Nat.reduceAdd, Nat.reduceSub, Array.replicate_succ, Array.replicate_zero, List.push_toArray, List.append_toArray, List.nil_append, List.cons_append]
  have hc1 := hb1.cell
  have hc2 := hb2.cell
  have hl1 := hb1.lt
  have hl2 := hb2.lt
  gi_wp2_with (refine ⟨trivial, ?_⟩; gi_at_call 233; refine (callsIn_wide.2 (hcl _ (Below.refl _ _))).mono ?_)
  rintro e w1 ⟨v1, rfl, hown, hbw1⟩
  gi_wp2_with (refine ⟨trivial, ?_⟩; gi_at_call 180; refine (callsIn_wide.2 (nought_any _)).mono ?_)
  rintro e w2 ⟨rfl, hbw2⟩
  have hB2 := hbw1.trans (hbw2.mono hbw1.size)
  have hc2' : w2.cell? ⟨b2, 0, none⟩ = some (.int .i64 d) := (hB2.cell (p := ⟨b2, 0, none⟩) hl2).trans hc2
  have hJ2 : J [] w2 := hJ _ _ _ h0 (StepL.below hB2 hB)
  have hown2 : OwnS B w2 v1 xs := (hown.after hbw2).base hB
  have hK2 : KTab w2 := hK.below hB2
  have hz2 : B ≤ w2.heap.size := Nat.le_trans hB hB2.size
  clear hc1 hc2 hb1 hb2 hown hbw1 hbw2 hB2 hcl h0 hK hl1 hl2
  gi_wp2
  gi_loopw [4, 5, 11] (fun v4 v5 i wr => ∃ (k : Nat) (pre : List Lv) (L : List ByteArray) (z : ByteArray), k ≤ d ∧ i = .int .i64 k ∧ v5 = .string z ∧ OwnS B wr v4 L ∧ J pre wr ∧ KTab wr ∧ B ≤ wr.heap.size ∧
    Hid (pre.map (·.2) ++ levelsB (d - k) L z = levelsB d xs noughtB ∧ L.length ≤ 1048576 ∧ z.size ≤ 1048576 ∧ ∀ x ∈ L, x.size ≤ 1048576)) (fun _ _ i _ => d - (RowKit.intOf i).toNat)
  case atStart => exact ⟨0, [], xs, noughtB, by omega, rfl, rfl, hown2, hJ2, hK2, hz2, Lib.hid ⟨by simp, hx, by decide, hxs⟩⟩
  case round =>
    obtain ⟨k, pre, L, z, hk, rfl, rfl, hown, hJ0, hK0, hz, HL⟩ := hrel
    obtain ⟨p, c, rfl⟩ := hown.form
    by_cases hlt : k < d
    · obtain ⟨f1, t1, a1, b1', hy1, hR1⟩ := hY pre (.slice p L.length c, L, z) wr hJ0 hown.strs HL.out.2.1
      have Hown := Lib.hid hown
      clear hown
      simp only [encL] at hy1
      gi_wp2
      refine hR1.mono ?_
      clear hy1
      rintro e W1 (⟨rfl, hJ1, hk1⟩ | ⟨rfl, hx1⟩)
      · have hown1 := Hown.out.keptL hk1
        have hK1 := hk1.2.2 hK0
        have hz1 : B ≤ W1.heap.size := Nat.le_trans hz hk1.1
        clear hk1 hJ0 hK0 hz Hown
        have hod : ((L.length : Int) % 2 == 1) = decide (L.length % 2 = 1) := by
          by_cases h : L.length % 2 = 1
          · rw [decide_eq_true h, beq_iff_eq]; omega
          · rw [decide_eq_false h, beq_eq_false_iff_ne]; omega
        have hLl := HL.out.2.1
        by_cases hodd : L.length % 2 = 1
        · have ho1 : ((L.length : Int) % 2 == 1) = true := by rw [hod, decide_eq_true hodd]
          have hev : evened z L = L ++ [z] := by unfold evened; rw [if_pos hodd]
          have ho2 := hown1.kept (World.grownBy_alloc W1 (.cells #[.string z] 9) none) (by cases h : (Value.slice p L.length c).ownBlock with | none => exact .inl rfl | some k => exact .inr (by simp))
          have hol := hown1.lt
          have hoc := fun k (e : (Value.slice p L.length c).ownBlock = some k) => hown1.cellsAt e
          have Hol := Lib.hid hol
          have Hoc := Lib.hid hoc
          clear hod hol hoc hown1
          gi_wp2_with (gi_at_builtin; refine wpListIn_appendT rfl _ _ 27 rfl B Tryz.underlying27 infoStr _ L rfl ho2 ⟨W1.heap.size, 0, none⟩ 1 z rfl ?c0 ?c1 ?c2 ?_)
          case c0 => exact cells_new W1 [.string z] _ 0 _ rfl
          case c1 => omega
          case c2 => simp; omega
          intro v' w3 hown3 hg3
          have hS3 : StepL B W1 w3 := (StepL.grown (World.grownBy_alloc W1 (.cells #[.string z] 9) none) hz1 (fun r e => by cases e)).trans (StepL.grown hg3 (by simp; omega) (fun r e => ⟨(Hol.out r e).1, by
            obtain ⟨o, ho, hc⟩ := Hoc.out r e
            exact ⟨o, (Below.heap_alloc _ _ _ (Hol.out r e).2).trans ho, hc⟩⟩))
          rw [← hev] at hown3
          have hJ3 := hJ _ _ _ hJ1 hS3
          have hK3 : KTab w3 := hK1.belowB hS3.1 hkB
          have hz3 : B ≤ w3.heap.size := Nat.le_trans hz1 hS3.1.size
          obtain ⟨p', c', rfl⟩ := hown3.form
          clear hJ1 hS3 hg3 ho2 Hol Hoc hz1 hK1 ho1
          obtain ⟨E, hE⟩ : ∃ E, evened z L = E := ⟨_, rfl⟩
          rw [hE] at hown3 ⊢
          have hEl := evened_length z L
          rw [hE] at hEl
          have Hown3 := Lib.hid hown3
          have HE := Lib.hid hE
          clear hown3 hev hE
          have hq2 : ((E.length / 2 : Nat) : Int) = (E.length : Int) / 2 := by omega
          gi_wp2
          gi_loopw [29] (fun i wr => ∃ j : Nat, j ≤ E.length / 2 ∧ i = .int .i64 j ∧ OwnS B wr (.slice p' E.length c') (halved E j) ∧ J (pre ++ [(.slice p L.length c, L, z)]) wr ∧ KTab wr ∧ B ≤ wr.heap.size) (fun i _ => E.length / 2 - (RowKit.intOf i).toNat)
          case atStart => exact ⟨0, by omega, rfl, by rw [halved_zero]; exact Hown3.out, hJ3, hK3, hz3⟩
          case round =>
            obtain ⟨j, hj, rfl, hownr, hJr, hKr, hzr⟩ := hrel
            by_cases hjl : j < E.length / 2
            · have hjz : (j : Int) < (E.length : Int) / 2 := by omega
              have hEj := halved_length E j (by omega)
              obtain ⟨g, cc, hgv, hgB, hgs, hcell, hfz⟩ := hownr.opened (by omega)
              rw [hEj] at hgv
              obtain rfl : p' = some ⟨g, 0, none⟩ := by cases hgv; rfl
              obtain ⟨a, ha⟩ : ∃ a, E.getD (2 * j) noughtB = a := ⟨_, rfl⟩
              obtain ⟨b, hb⟩ : ∃ b, E.getD (2 * j + 1) noughtB = b := ⟨_, rfl⟩
              have ca := hcell (2 * j) a (by rw [halved_at E j (2 * j) (by omega) (by omega) (by omega), ha])
              have cb := hcell (2 * j + 1) b (by rw [halved_at E j (2 * j + 1) (by omega) (by omega) (by omega), hb])
              have hcj := hcell j _ (halved_at E j j (by omega) (Nat.le_refl _) (by omega))
              have hset := halved_set E j hjl
              rw [ha, hb] at hset
              have hEs : ∀ x ∈ E, x.size ≤ 1048576 := by
                rw [← HE.out]
                intro x hx
                rcases evened_mem hx with hx | hx
                · exact HL.out.2.2.2 x hx
                · rw [hx]; exact HL.out.2.2.1
              have has : a.size ≤ 1048576 := by rw [← ha, List.getD_eq_getElem?_getD, List.getElem?_eq_getElem (by omega)]; exact hEs _ (List.getElem_mem _)
              have hbs : b.size ≤ 1048576 := by rw [← hb, List.getD_eq_getElem?_getD, List.getElem?_eq_getElem (by omega)]; exact hEs _ (List.getElem_mem _)
              have v1' : IntKind.i64.wrap (2 * (j : Int)) = 2 * (j : Int) := by rw [IntKind.wrap_i64]; omega
              have v2' : IntKind.i64.wrap (2 * (j : Int) + 1) = 2 * (j : Int) + 1 := by rw [IntKind.wrap_i64]; omega
              have u1 : (0 : Int) ≤ 2 * (j : Int) := by omega
              have u2 : 2 * (j : Int) < (E.length : Int) := by omega
              have u3 : (2 * (j : Int)).toNat = 2 * j := by omega
              have u4 : (0 : Int) ≤ 2 * (j : Int) + 1 := by omega
              have u5 : 2 * (j : Int) + 1 < (E.length : Int) := by omega
              have u6' : (2 * (j : Int) + 1).toNat = 2 * j + 1 := by omega
              have u7' : (j : Int) < (E.length : Int) := by omega
              have HS := Lib.hid (fun W' (hb' : Below wr.heap.size wr W') => (show W'.cell? ⟨g, 2 * j, none⟩ = some (.string a) ∧ W'.cell? ⟨g, 2 * j + 1, none⟩ = some (.string b) from ⟨(hb'.cell (p := ⟨g, 2 * j, none⟩) hgs).trans ca, (hb'.cell (p := ⟨g, 2 * j + 1, none⟩) hgs).trans cb⟩))
              have b0 : Below wr.heap.size wr wr.drew := (Below.refl _ _).drew
              have b5 : Below wr.heap.size wr (wr.alloc (.cells #[.string a, .string b] 9)).drew := ((Below.refl _ _).alloc (Nat.le_refl _) _).drew
              clear hcell ca cb ha hb hEs hgv hEj
              gi_wp2
              refine wpIn_wide.2 ?_
              refine wp_region_L (fun L w' => L.getD 16 true = false → (w'.cell? ⟨g, 2 * j, none⟩ = some (.string a) ∧ w'.cell? ⟨g, 2 * j + 1, none⟩ = some (.string b))) (by kernel_rfl) ?_
              refine wpAnyL_take (i := 0) (v := .slice (some ⟨g, 0, none⟩) E.length c') (fuel := 16) rfl (by kernel_rfl) (by kernel_rfl) (by kernel_rfl) (by kernel_rfl) (fun _ _ _ h => h) (fun L w' => by rw [getD_set_ne true (by omega)]) (fun _ => HS.out _ b0) (.inl ⟨by rfl, ?_⟩) ?_
              · rintro w' ⟨L, hcl, h0, hS⟩
                obtain ⟨z0, z1⟩ := hS (closedB_before hcl (i := 0) (by kernel_rfl) h0)
                clear hS hcl h0
                go_simp
              simp only [Act.put, List.getElem_toArray, List.getElem_cons_zero, List.setIfInBounds_toArray, List.set_cons_zero, List.set_cons_succ]
              refine wpAnyL_take (i := 1) (v := .int .i64 j) (fuel := 15) rfl (by kernel_rfl) (by kernel_rfl) (by kernel_rfl) (by kernel_rfl) (fun _ _ _ h => h) (fun L w' => by rw [getD_set_ne true (by omega)]) (fun _ => HS.out _ b0) (.inl ⟨by rfl, ?_⟩) ?_
              · rintro w' ⟨L, hcl, h0, hS⟩
                obtain ⟨z0, z1⟩ := hS (closedB_before hcl (i := 1) (by kernel_rfl) h0)
                clear hS hcl h0
                go_simp
              simp only [Act.put, List.getElem_toArray, List.getElem_cons_zero, List.getElem_cons_succ, List.setIfInBounds_toArray, List.set_cons_zero, List.set_cons_succ]
              refine wpAnyL_take (i := 2) (v := .slice (some ⟨g, 0, none⟩) E.length c') (fuel := 14) rfl (by kernel_rfl) (by kernel_rfl) (by kernel_rfl) (by kernel_rfl) (fun _ _ _ h => h) (fun L w' => by rw [getD_set_ne true (by omega)]) (fun _ => HS.out _ b0) (.inl ⟨by rfl, ?_⟩) ?_
              · rintro w' ⟨L, hcl, h0, hS⟩
                obtain ⟨z0, z1⟩ := hS (closedB_before hcl (i := 2) (by kernel_rfl) h0)
                clear hS hcl h0
                go_simp
              simp only [Act.put, List.getElem_toArray, List.getElem_cons_zero, List.getElem_cons_succ, List.setIfInBounds_toArray, List.set_cons_zero, List.set_cons_succ]
              refine wpAnyL_take (i := 3) (v := .int .i64 j) (fuel := 13) rfl (by kernel_rfl) (by kernel_rfl) (by kernel_rfl) (by kernel_rfl) (fun _ _ _ h => h) (fun L w' => by rw [getD_set_ne true (by omega)]) (fun _ => HS.out _ b0) (.inl ⟨by rfl, ?_⟩) ?_
              · rintro w' ⟨L, hcl, h0, hS⟩
                obtain ⟨z0, z1⟩ := hS (closedB_before hcl (i := 3) (by kernel_rfl) h0)
                clear hS hcl h0
                go_simp
              simp only [Act.put, List.getElem_toArray, List.getElem_cons_zero, List.getElem_cons_succ, List.setIfInBounds_toArray, List.set_cons_zero, List.set_cons_succ]
              refine wpAnyL_take (i := 4) (v := .int .i64 (2 * (j : Int))) (fuel := 12) rfl (by kernel_rfl) (by kernel_rfl) (by kernel_rfl) (by kernel_rfl) (fun _ _ _ h => h) (fun L w' => by rw [getD_set_ne true (by omega)]) (fun _ => HS.out _ b0) (.inl ⟨by rfl, ?_⟩) ?_
              · rintro w' ⟨L, hcl, h0, hS⟩
                obtain ⟨z0, z1⟩ := hS (closedB_before hcl (i := 4) (by kernel_rfl) h0)
                clear hS hcl h0
                go_simp
              simp only [Act.put, List.getElem_toArray, List.getElem_cons_zero, List.getElem_cons_succ, List.setIfInBounds_toArray, List.set_cons_zero, List.set_cons_succ]
              refine wpAnyL_take (i := 5) (v := .pointer (some ⟨g, 2 * j, none⟩)) (fuel := 11) rfl (by kernel_rfl) (by kernel_rfl) (by kernel_rfl) (by kernel_rfl) (fun _ _ _ h => h) (fun L w' => by rw [getD_set_ne true (by omega)]) (fun _ => HS.out _ b0) (.inl ⟨by rfl, ?_⟩) ?_
              · rintro w' ⟨L, hcl, h0, hS⟩
                obtain ⟨z0, z1⟩ := hS (closedB_before hcl (i := 5) (by kernel_rfl) h0)
                clear hS hcl h0
                go_simp
              simp only [Act.put, List.getElem_toArray, List.getElem_cons_zero, List.getElem_cons_succ, List.setIfInBounds_toArray, List.set_cons_zero, List.set_cons_succ]
              refine wpAnyL_take (i := 6) (v := .string a) (fuel := 10) rfl (by kernel_rfl) (by kernel_rfl) (by kernel_rfl) (by kernel_rfl) (fun _ _ _ h => h) (fun L w' => by rw [getD_set_ne true (by omega)]) (fun _ => HS.out _ b0) (.inl ⟨by rfl, ?_⟩) ?_
              · rintro w' ⟨L, hcl, h0, hS⟩
                obtain ⟨z0, z1⟩ := hS (closedB_before hcl (i := 6) (by kernel_rfl) h0)
                clear hS hcl h0
                go_simp
              simp only [Act.put, List.getElem_toArray, List.getElem_cons_zero, List.getElem_cons_succ, List.setIfInBounds_toArray, List.set_cons_zero, List.set_cons_succ]
              refine wpAnyL_take (i := 7) (v := .slice (some ⟨g, 0, none⟩) E.length c') (fuel := 9) rfl (by kernel_rfl) (by kernel_rfl) (by kernel_rfl) (by kernel_rfl) (fun _ _ _ h => h) (fun L w' => by rw [getD_set_ne true (by omega)]) (fun _ => HS.out _ b0) (.inl ⟨by rfl, ?_⟩) ?_
              · rintro w' ⟨L, hcl, h0, hS⟩
                obtain ⟨z0, z1⟩ := hS (closedB_before hcl (i := 7) (by kernel_rfl) h0)
                clear hS hcl h0
                go_simp
              simp only [Act.put, List.getElem_toArray, List.getElem_cons_zero, List.getElem_cons_succ, List.setIfInBounds_toArray, List.set_cons_zero, List.set_cons_succ]
              refine wpAnyL_take (i := 8) (v := .int .i64 j) (fuel := 8) rfl (by kernel_rfl) (by kernel_rfl) (by kernel_rfl) (by kernel_rfl) (fun _ _ _ h => h) (fun L w' => by rw [getD_set_ne true (by omega)]) (fun _ => HS.out _ b0) (.inl ⟨by rfl, ?_⟩) ?_
              · rintro w' ⟨L, hcl, h0, hS⟩
                obtain ⟨z0, z1⟩ := hS (closedB_before hcl (i := 8) (by kernel_rfl) h0)
                clear hS hcl h0
                go_simp
              simp only [Act.put, List.getElem_toArray, List.getElem_cons_zero, List.getElem_cons_succ, List.setIfInBounds_toArray, List.set_cons_zero, List.set_cons_succ]
              refine wpAnyL_take (i := 9) (v := .int .i64 (2 * (j : Int))) (fuel := 7) rfl (by kernel_rfl) (by kernel_rfl) (by kernel_rfl) (by kernel_rfl) (fun _ _ _ h => h) (fun L w' => by rw [getD_set_ne true (by omega)]) (fun _ => HS.out _ b0) (.inl ⟨by rfl, ?_⟩) ?_
              · rintro w' ⟨L, hcl, h0, hS⟩
                obtain ⟨z0, z1⟩ := hS (closedB_before hcl (i := 9) (by kernel_rfl) h0)
                clear hS hcl h0
                go_simp
              simp only [Act.put, List.getElem_toArray, List.getElem_cons_zero, List.getElem_cons_succ, List.setIfInBounds_toArray, List.set_cons_zero, List.set_cons_succ]
              refine wpAnyL_take (i := 10) (v := .int .i64 (2 * (j : Int) + 1)) (fuel := 6) rfl (by kernel_rfl) (by kernel_rfl) (by kernel_rfl) (by kernel_rfl) (fun _ _ _ h => h) (fun L w' => by rw [getD_set_ne true (by omega)]) (fun _ => HS.out _ b0) (.inl ⟨by rfl, ?_⟩) ?_
              · rintro w' ⟨L, hcl, h0, hS⟩
                obtain ⟨z0, z1⟩ := hS (closedB_before hcl (i := 10) (by kernel_rfl) h0)
                clear hS hcl h0
                go_simp
              simp only [Act.put, List.getElem_toArray, List.getElem_cons_zero, List.getElem_cons_succ, List.setIfInBounds_toArray, List.set_cons_zero, List.set_cons_succ]
              refine wpAnyL_take (i := 11) (v := .pointer (some ⟨g, 2 * j + 1, none⟩)) (fuel := 5) rfl (by kernel_rfl) (by kernel_rfl) (by kernel_rfl) (by kernel_rfl) (fun _ _ _ h => h) (fun L w' => by rw [getD_set_ne true (by omega)]) (fun _ => HS.out _ b0) (.inl ⟨by rfl, ?_⟩) ?_
              · rintro w' ⟨L, hcl, h0, hS⟩
                obtain ⟨z0, z1⟩ := hS (closedB_before hcl (i := 11) (by kernel_rfl) h0)
                clear hS hcl h0
                go_simp
              simp only [Act.put, List.getElem_toArray, List.getElem_cons_zero, List.getElem_cons_succ, List.setIfInBounds_toArray, List.set_cons_zero, List.set_cons_succ]
              refine wpAnyL_take (i := 12) (v := .string b) (fuel := 4) rfl (by kernel_rfl) (by kernel_rfl) (by kernel_rfl) (by kernel_rfl) (fun _ _ _ h => h) (fun L w' => by rw [getD_set_ne true (by omega)]) (fun _ => HS.out _ b0) (.inl ⟨by rfl, ?_⟩) ?_
              · rintro w' ⟨L, hcl, h0, hS⟩
                obtain ⟨z0, z1⟩ := hS (closedB_before hcl (i := 12) (by kernel_rfl) h0)
                clear hS hcl h0
                go_simp
              simp only [Act.put, List.getElem_toArray, List.getElem_cons_zero, List.getElem_cons_succ, List.setIfInBounds_toArray, List.set_cons_zero, List.set_cons_succ]
              refine wpAnyL_one (i := 13) (fuel := 3) (by kernel_rfl) rfl (fun K hK => ?_)
              go_simp
              refine hK.out _ _ (fun h => HS.out _ b5) (fun _ => ?_)
              clear hK K
              try simp only [Act.put, List.getElem_toArray, List.getElem_cons_zero, List.getElem_cons_succ, List.setIfInBounds_toArray, List.set_cons_zero, List.set_cons_succ]
              refine wpAnyL_one (i := 14) (fuel := 2) (by kernel_rfl) rfl (fun K hK => ?_)
              go_simp
              go_at_call 116
              refine (sum2_any a b wr _ (.inr rfl) has hbs hKr).mono ?_
              rintro e w5 ⟨rfl, hb5⟩
              have b6 := b5.trans (hb5.mono b5.size)
              refine hK.out _ _ (fun h => HS.out _ b6) (fun _ => ?_)
              clear hK K
              try simp only [Act.put, List.getElem_toArray, List.getElem_cons_zero, List.getElem_cons_succ, List.setIfInBounds_toArray, List.set_cons_zero, List.set_cons_succ]
              refine wpAnyL_take (i := 15) (v := .pointer (some ⟨g, j, none⟩)) (fuel := 1) rfl (by kernel_rfl) (by kernel_rfl) (by kernel_rfl) (by kernel_rfl) (fun _ _ _ h => h) (fun L w' => by rw [getD_set_ne true (by omega)]) (fun _ => HS.out _ b6) (.inl ⟨by rfl, ?_⟩) ?_
              · rintro w' ⟨L, hcl, h0, hS⟩
                obtain ⟨z0, z1⟩ := hS (closedB_before hcl (i := 15) (by kernel_rfl) h0)
                clear hS hcl h0
                go_simp
              simp only [Act.put, List.getElem_toArray, List.getElem_cons_zero, List.getElem_cons_succ, List.setIfInBounds_toArray, List.set_cons_zero, List.set_cons_succ]
              have ho6 := hownr.after b6
              have hc6 := (b6.cell (p := ⟨g, j, none⟩) hgs).trans hcj
              have hf6 := (b6.frozen (p := ⟨g, j, none⟩) hgs).trans (hfz j)
              have hst := ho6.stored j (hash2 a b)
              rw [hset] at hst
              have Hst := Lib.hid hst
              have Hb6 := Lib.hid b6
              clear hst ho6
              refine wpAnyL_one (i := 16) (fuel := 0) (by kernel_rfl) rfl (fun K hK => ?_)
              go_simp
              refine hK.out _ _ (fun h => (by cases h)) (fun _ => ?_)
              clear hK K
              try simp only [Act.put, List.getElem_toArray, List.getElem_cons_zero, List.getElem_cons_succ, List.setIfInBounds_toArray, List.set_cons_zero, List.set_cons_succ]
              refine wpAnyL_done (by kernel_rfl) ?_ 0
              obtain ⟨q1, q2⟩ := Hst.out
              have hS6 : StepL B wr (w5.setCell ⟨g, j, none⟩ (.string (hash2 a b))) := (StepL.below Hb6.out hzr).trans (StepL.grown q2 (Nat.le_trans hzr Hb6.out.size) (fun r e => by cases e; exact ⟨hgB, (hownr.after Hb6.out).cellsAt rfl⟩))
              have hJ6 := hJ _ _ _ hJr hS6
              have hK6 := hKr.belowB hS6.1 hkB
              have hz6 := Nat.le_trans hzr hS6.1.size
              gi_wp2
              go_roundw
              case rel => exact ⟨j + 1, by omega, by go_num, q1, hJ6, hK6, hz6⟩
              case measure => simp [RowKit.intOf]; omega
            · obtain rfl : j = E.length / 2 := by omega
              have hm1 : (0 : Int) ≤ (E.length : Int) / 2 := by omega
              have hcap := hownr.cap
              rw [halved_length E _ (Nat.le_refl _)] at hcap
              have wq : IntKind.i64.wrap ((E.length : Int) / 2) = (E.length : Int) / 2 := by rw [IntKind.wrap_i64]; omega
              have hcz : (E.length : Int) / 2 ≤ (c' : Int) := by omega
              have htn : ((E.length : Int) / 2).toNat = E.length / 2 := by omega
              gi_wp2
              refine wpIn_wide.2 ?_
              have c0 : Below wr.heap.size wr wr.drew := (Below.refl _ _).drew
              have c5 : Below wr.heap.size wr (wr.alloc (.cells #[.string z, .string z] 9)).drew := ((Below.refl _ _).alloc (Nat.le_refl _) _).drew
              refine wp_region_held_drew (S := fun _ => True) (by kernel_rfl) (trivial) (fun hHeld => ?_)
              refine wpAnyH_take (i := 0) (v := .slice p' E.length c') rfl (by kernel_rfl) (by kernel_rfl) (by kernel_rfl) (fun _ _ _ h => h) (.inl ⟨by rfl, ?_⟩) (by assumption) ?_
              · intro w0 hSw
                go_simp
              simp only [Act.put, List.getElem_toArray, List.getElem_cons_zero, List.setIfInBounds_toArray, List.set_cons_zero, List.set_cons_succ]
              refine wpAnyH_take (i := 1) (v := .slice p' E.length c') rfl (by kernel_rfl) (by kernel_rfl) (by kernel_rfl) (fun _ _ _ h => h) (.inl ⟨by rfl, ?_⟩) (by assumption) ?_
              · intro w0 hSw
                go_simp
              simp only [Act.put, List.getElem_toArray, List.getElem_cons_zero, List.getElem_cons_succ, List.setIfInBounds_toArray, List.set_cons_zero, List.set_cons_succ]
              refine wpAnyH_take (i := 2) (v := .int .i64 E.length) rfl (by kernel_rfl) (by kernel_rfl) (by kernel_rfl) (fun _ _ _ h => h) (.inl ⟨by rfl, ?_⟩) (by assumption) ?_
              · intro w0 hSw
                go_simp
              simp only [Act.put, List.getElem_toArray, List.getElem_cons_zero, List.getElem_cons_succ, List.setIfInBounds_toArray, List.set_cons_zero, List.set_cons_succ]
              refine wpAnyH_take (i := 3) (v := .int .i64 ((E.length : Int) / 2)) rfl (by kernel_rfl) (by kernel_rfl) (by kernel_rfl) (fun _ _ _ h => h) (.inl ⟨by rfl, ?_⟩) (by assumption) ?_
              · intro w0 hSw
                go_simp
              simp only [Act.put, List.getElem_toArray, List.getElem_cons_zero, List.getElem_cons_succ, List.setIfInBounds_toArray, List.set_cons_zero, List.set_cons_succ]
              refine wpAnyH_take (i := 4) (v := .slice p' (E.length / 2) c') rfl (by kernel_rfl) (by kernel_rfl) (by kernel_rfl) (fun _ _ _ h => h) (.inl ⟨by rfl, ?_⟩) (by assumption) ?_
              · intro w0 hSw
                (go_simp; first | done | rw [htn])
              simp only [Act.put, List.getElem_toArray, List.getElem_cons_zero, List.getElem_cons_succ, List.setIfInBounds_toArray, List.set_cons_zero, List.set_cons_succ]
              refine wpAnyH_take (i := 5) (v := .string z) rfl (by kernel_rfl) (by kernel_rfl) (by kernel_rfl) (fun _ _ _ h => h) (.inl ⟨by rfl, ?_⟩) (by assumption) ?_
              · intro w0 hSw
                go_simp
              simp only [Act.put, List.getElem_toArray, List.getElem_cons_zero, List.getElem_cons_succ, List.setIfInBounds_toArray, List.set_cons_zero, List.set_cons_succ]
              refine wpAnyH_take (i := 6) (v := .string z) rfl (by kernel_rfl) (by kernel_rfl) (by kernel_rfl) (fun _ _ _ h => h) (.inl ⟨by rfl, ?_⟩) (by assumption) ?_
              · intro w0 hSw
                go_simp
              simp only [Act.put, List.getElem_toArray, List.getElem_cons_zero, List.getElem_cons_succ, List.setIfInBounds_toArray, List.set_cons_zero, List.set_cons_succ]
              refine wpAnyH_ready (rs := [7]) (by kernel_rfl) (by simp) ?_
              refine AllReadyH.cons rfl (fun K hK => ?_) AllReadyH.nil
              go_simp
              refine hK.out _ _ (trivial) (fun hHeld => ?_)
              clear hK K
              try simp only [Act.put, List.getElem_toArray, List.getElem_cons_zero, List.getElem_cons_succ, List.setIfInBounds_toArray, List.set_cons_zero, List.set_cons_succ]
              refine wpAnyH_ready (rs := [8]) (by kernel_rfl) (by simp) ?_
              refine AllReadyH.cons rfl (fun K hK => ?_) AllReadyH.nil
              go_simp
              go_at_call 116
              refine (sum2_any z z wr _ (.inr rfl) HL.out.2.2.1 HL.out.2.2.1 hKr).mono ?_
              rintro e w5 ⟨rfl, hb5⟩
              have c6 := c5.trans (hb5.mono c5.size)
              refine hK.out _ _ (trivial) (fun hHeld => ?_)
              clear hK K
              try simp only [Act.put, List.getElem_toArray, List.getElem_cons_zero, List.getElem_cons_succ, List.setIfInBounds_toArray, List.set_cons_zero, List.set_cons_succ]
              refine wpAnyH_take (i := 9) (v := .slice p' (E.length / 2) c') rfl (by kernel_rfl) (by kernel_rfl) (by kernel_rfl) (fun _ _ _ h => h) (.inl ⟨by rfl, ?_⟩) (by assumption) ?_
              · intro w0 hSw
                go_simp
              simp only [Act.put, List.getElem_toArray, List.getElem_cons_zero, List.getElem_cons_succ, List.setIfInBounds_toArray, List.set_cons_zero, List.set_cons_succ]
              refine wpAnyH_take (i := 10) (v := .string (hash2 z z)) rfl (by kernel_rfl) (by kernel_rfl) (by kernel_rfl) (fun _ _ _ h => h) (.inl ⟨by rfl, ?_⟩) (by assumption) ?_
              · intro w0 hSw
                go_simp
              simp only [Act.put, List.getElem_toArray, List.getElem_cons_zero, List.getElem_cons_succ, List.setIfInBounds_toArray, List.set_cons_zero, List.set_cons_succ]
              refine wpAnyH_done (by kernel_rfl) ?_ 0
              have ho6 := hownr.after c6
              have hS6 := StepL.below c6 hzr
              have hJ6 := hJ _ _ _ hJr hS6
              have hK6 := hKr.belowB hS6.1 hkB
              have hz6 := Nat.le_trans hzr hS6.1.size
              have hhalf := (hownr.after c6).half (m := E.length / 2) (by rw [halved_length E _ (Nat.le_refl _)]; omega)
              rw [halved_done] at hhalf
              have hup : levelUp z L = halfs E := by unfold levelUp; rw [HE.out]
              have hnew : (pre ++ [(Value.slice p L.length c, L, z)]).map (·.2) ++ levelsB (d - (k + 1)) (levelUp z L) (hash2 z z) = levelsB d xs noughtB := by
                obtain ⟨q, hq⟩ : ∃ q, d - k = q + 1 := ⟨d - k - 1, by omega⟩
                have h := HL.out.1
                rw [hq] at h
                rw [show d - (k + 1) = q from by omega, ← h]
                simp [levelsB]
              have hnl : (levelUp z L).length ≤ 1048576 := Nat.le_trans (levelUp_length z L) HL.out.2.1
              have hns : ∀ x ∈ levelUp z L, x.size ≤ 1048576 := by
                intro x hx
                unfold levelUp halfs at hx
                obtain ⟨i, _, rfl⟩ := List.mem_map.1 hx
                rw [hash2_size]; omega
              have HN := Lib.hid (And.intro hnew (And.intro hnl (And.intro (show (hash2 z z).size ≤ 1048576 by rw [hash2_size]; omega) hns)))
              clear hnew hnl hns
              rw [← hup] at hhalf
              have HH := Lib.hid hhalf
              clear hhalf hup wq hcz htn hcap hm1 hEl hq2 hownr ho6
              gi_wp2
              go_roundw
              case rel => exact ⟨k + 1, _, levelUp z L, hash2 z z, by omega, by go_num, rfl, HH.out, hJ6, hK6, hz6, HN⟩
              case measure => simp [RowKit.intOf]; omega
        · have ho1 : ((L.length : Int) % 2 == 1) = false := by rw [hod, decide_eq_false hodd]
          have hev : evened z L = L := by unfold evened; rw [if_neg hodd]
          have hown3 := hown1
          have hJ3 := hJ1
          have hK3 := hK1
          have hz3 := hz1
          clear hown1 hJ1 hK1 hz1
          have hE := hev
          have hEl := evened_length z L
          rw [hE] at hEl
          have Hown3 := Lib.hid hown3
          have HE := Lib.hid hE
          clear hown3 hev hE hod
          have hq2 : ((L.length / 2 : Nat) : Int) = (L.length : Int) / 2 := by omega
          gi_wp2
          gi_loopw [29] (fun i wr => ∃ j : Nat, j ≤ L.length / 2 ∧ i = .int .i64 j ∧ OwnS B wr (.slice p L.length c) (halved L j) ∧ J (pre ++ [(.slice p L.length c, L, z)]) wr ∧ KTab wr ∧ B ≤ wr.heap.size) (fun i _ => L.length / 2 - (RowKit.intOf i).toNat)
          case atStart => exact ⟨0, by omega, rfl, by rw [halved_zero]; exact Hown3.out, hJ3, hK3, hz3⟩
          case round =>
            obtain ⟨j, hj, rfl, hownr, hJr, hKr, hzr⟩ := hrel
            by_cases hjl : j < L.length / 2
            · have hjz : (j : Int) < (L.length : Int) / 2 := by omega
              have hEj := halved_length L j (by omega)
              obtain ⟨g, cc, hgv, hgB, hgs, hcell, hfz⟩ := hownr.opened (by omega)
              rw [hEj] at hgv
              obtain rfl : p = some ⟨g, 0, none⟩ := by cases hgv; rfl
              obtain ⟨a, ha⟩ : ∃ a, L.getD (2 * j) noughtB = a := ⟨_, rfl⟩
              obtain ⟨b, hb⟩ : ∃ b, L.getD (2 * j + 1) noughtB = b := ⟨_, rfl⟩
              have ca := hcell (2 * j) a (by rw [halved_at L j (2 * j) (by omega) (by omega) (by omega), ha])
              have cb := hcell (2 * j + 1) b (by rw [halved_at L j (2 * j + 1) (by omega) (by omega) (by omega), hb])
              have hcj := hcell j _ (halved_at L j j (by omega) (Nat.le_refl _) (by omega))
              have hset := halved_set L j hjl
              rw [ha, hb] at hset
              have hEs : ∀ x ∈ L, x.size ≤ 1048576 := by
                rw [← HE.out]
                intro x hx
                rcases evened_mem hx with hx | hx
                · exact HL.out.2.2.2 x hx
                · rw [hx]; exact HL.out.2.2.1
              have has : a.size ≤ 1048576 := by rw [← ha, List.getD_eq_getElem?_getD, List.getElem?_eq_getElem (by omega)]; exact hEs _ (List.getElem_mem _)
              have hbs : b.size ≤ 1048576 := by rw [← hb, List.getD_eq_getElem?_getD, List.getElem?_eq_getElem (by omega)]; exact hEs _ (List.getElem_mem _)
              have v1' : IntKind.i64.wrap (2 * (j : Int)) = 2 * (j : Int) := by rw [IntKind.wrap_i64]; omega
              have v2' : IntKind.i64.wrap (2 * (j : Int) + 1) = 2 * (j : Int) + 1 := by rw [IntKind.wrap_i64]; omega
              have u1 : (0 : Int) ≤ 2 * (j : Int) := by omega
              have u2 : 2 * (j : Int) < (L.length : Int) := by omega
              have u3 : (2 * (j : Int)).toNat = 2 * j := by omega
              have u4 : (0 : Int) ≤ 2 * (j : Int) + 1 := by omega
              have u5 : 2 * (j : Int) + 1 < (L.length : Int) := by omega
              have u6' : (2 * (j : Int) + 1).toNat = 2 * j + 1 := by omega
              have u7' : (j : Int) < (L.length : Int) := by omega
              have HS := Lib.hid (fun W' (hb' : Below wr.heap.size wr W') => (show W'.cell? ⟨g, 2 * j, none⟩ = some (.string a) ∧ W'.cell? ⟨g, 2 * j + 1, none⟩ = some (.string b) from ⟨(hb'.cell (p := ⟨g, 2 * j, none⟩) hgs).trans ca, (hb'.cell (p := ⟨g, 2 * j + 1, none⟩) hgs).trans cb⟩))
              have b0 : Below wr.heap.size wr wr.drew := (Below.refl _ _).drew
              have b5 : Below wr.heap.size wr (wr.alloc (.cells #[.string a, .string b] 9)).drew := ((Below.refl _ _).alloc (Nat.le_refl _) _).drew
              clear hcell ca cb ha hb hEs hgv hEj
              gi_wp2
              refine wpIn_wide.2 ?_
              refine wp_region_L (fun L w' => L.getD 16 true = false → (w'.cell? ⟨g, 2 * j, none⟩ = some (.string a) ∧ w'.cell? ⟨g, 2 * j + 1, none⟩ = some (.string b))) (by kernel_rfl) ?_
              refine wpAnyL_take (i := 0) (v := .slice (some ⟨g, 0, none⟩) L.length c) (fuel := 16) rfl (by kernel_rfl) (by kernel_rfl) (by kernel_rfl) (by kernel_rfl) (fun _ _ _ h => h) (fun L w' => by rw [getD_set_ne true (by omega)]) (fun _ => HS.out _ b0) (.inl ⟨by rfl, ?_⟩) ?_
              · rintro w' ⟨L, hcl, h0, hS⟩
                obtain ⟨z0, z1⟩ := hS (closedB_before hcl (i := 0) (by kernel_rfl) h0)
                clear hS hcl h0
                go_simp
              simp only [Act.put, List.getElem_toArray, List.getElem_cons_zero, List.setIfInBounds_toArray, List.set_cons_zero, List.set_cons_succ]
              refine wpAnyL_take (i := 1) (v := .int .i64 j) (fuel := 15) rfl (by kernel_rfl) (by kernel_rfl) (by kernel_rfl) (by kernel_rfl) (fun _ _ _ h => h) (fun L w' => by rw [getD_set_ne true (by omega)]) (fun _ => HS.out _ b0) (.inl ⟨by rfl, ?_⟩) ?_
              · rintro w' ⟨L, hcl, h0, hS⟩
                obtain ⟨z0, z1⟩ := hS (closedB_before hcl (i := 1) (by kernel_rfl) h0)
                clear hS hcl h0
                go_simp
              simp only [Act.put, List.getElem_toArray, List.getElem_cons_zero, List.getElem_cons_succ, List.setIfInBounds_toArray, List.set_cons_zero, List.set_cons_succ]
              refine wpAnyL_take (i := 2) (v := .slice (some ⟨g, 0, none⟩) L.length c) (fuel := 14) rfl (by kernel_rfl) (by kernel_rfl) (by kernel_rfl) (by kernel_rfl) (fun _ _ _ h => h) (fun L w' => by rw [getD_set_ne true (by omega)]) (fun _ => HS.out _ b0) (.inl ⟨by rfl, ?_⟩) ?_
              · rintro w' ⟨L, hcl, h0, hS⟩
                obtain ⟨z0, z1⟩ := hS (closedB_before hcl (i := 2) (by kernel_rfl) h0)
                clear hS hcl h0
                go_simp
              simp only [Act.put, List.getElem_toArray, List.getElem_cons_zero, List.getElem_cons_succ, List.setIfInBounds_toArray, List.set_cons_zero, List.set_cons_succ]
              refine wpAnyL_take (i := 3) (v := .int .i64 j) (fuel := 13) rfl (by kernel_rfl) (by kernel_rfl) (by kernel_rfl) (by kernel_rfl) (fun _ _ _ h => h) (fun L w' => by rw [getD_set_ne true (by omega)]) (fun _ => HS.out _ b0) (.inl ⟨by rfl, ?_⟩) ?_
              · rintro w' ⟨L, hcl, h0, hS⟩
                obtain ⟨z0, z1⟩ := hS (closedB_before hcl (i := 3) (by kernel_rfl) h0)
                clear hS hcl h0
                go_simp
              simp only [Act.put, List.getElem_toArray, List.getElem_cons_zero, List.getElem_cons_succ, List.setIfInBounds_toArray, List.set_cons_zero, List.set_cons_succ]
              refine wpAnyL_take (i := 4) (v := .int .i64 (2 * (j : Int))) (fuel := 12) rfl (by kernel_rfl) (by kernel_rfl) (by kernel_rfl) (by kernel_rfl) (fun _ _ _ h => h) (fun L w' => by rw [getD_set_ne true (by omega)]) (fun _ => HS.out _ b0) (.inl ⟨by rfl, ?_⟩) ?_
              · rintro w' ⟨L, hcl, h0, hS⟩
                obtain ⟨z0, z1⟩ := hS (closedB_before hcl (i := 4) (by kernel_rfl) h0)
                clear hS hcl h0
                go_simp
              simp only [Act.put, List.getElem_toArray, List.getElem_cons_zero, List.getElem_cons_succ, List.setIfInBounds_toArray, List.set_cons_zero, List.set_cons_succ]
              refine wpAnyL_take (i := 5) (v := .pointer (some ⟨g, 2 * j, none⟩)) (fuel := 11) rfl (by kernel_rfl) (by kernel_rfl) (by kernel_rfl) (by kernel_rfl) (fun _ _ _ h => h) (fun L w' => by rw [getD_set_ne true (by omega)]) (fun _ => HS.out _ b0) (.inl ⟨by rfl, ?_⟩) ?_
              · rintro w' ⟨L, hcl, h0, hS⟩
                obtain ⟨z0, z1⟩ := hS (closedB_before hcl (i := 5) (by kernel_rfl) h0)
                clear hS hcl h0
                go_simp
              simp only [Act.put, List.getElem_toArray, List.getElem_cons_zero, List.getElem_cons_succ, List.setIfInBounds_toArray, List.set_cons_zero, List.set_cons_succ]
              refine wpAnyL_take (i := 6) (v := .string a) (fuel := 10) rfl (by kernel_rfl) (by kernel_rfl) (by kernel_rfl) (by kernel_rfl) (fun _ _ _ h => h) (fun L w' => by rw [getD_set_ne true (by omega)]) (fun _ => HS.out _ b0) (.inl ⟨by rfl, ?_⟩) ?_
              · rintro w' ⟨L, hcl, h0, hS⟩
                obtain ⟨z0, z1⟩ := hS (closedB_before hcl (i := 6) (by kernel_rfl) h0)
                clear hS hcl h0
                go_simp
              simp only [Act.put, List.getElem_toArray, List.getElem_cons_zero, List.getElem_cons_succ, List.setIfInBounds_toArray, List.set_cons_zero, List.set_cons_succ]
              refine wpAnyL_take (i := 7) (v := .slice (some ⟨g, 0, none⟩) L.length c) (fuel := 9) rfl (by kernel_rfl) (by kernel_rfl) (by kernel_rfl) (by kernel_rfl) (fun _ _ _ h => h) (fun L w' => by rw [getD_set_ne true (by omega)]) (fun _ => HS.out _ b0) (.inl ⟨by rfl, ?_⟩) ?_
              · rintro w' ⟨L, hcl, h0, hS⟩
                obtain ⟨z0, z1⟩ := hS (closedB_before hcl (i := 7) (by kernel_rfl) h0)
                clear hS hcl h0
                go_simp
              simp only [Act.put, List.getElem_toArray, List.getElem_cons_zero, List.getElem_cons_succ, List.setIfInBounds_toArray, List.set_cons_zero, List.set_cons_succ]
              refine wpAnyL_take (i := 8) (v := .int .i64 j) (fuel := 8) rfl (by kernel_rfl) (by kernel_rfl) (by kernel_rfl) (by kernel_rfl) (fun _ _ _ h => h) (fun L w' => by rw [getD_set_ne true (by omega)]) (fun _ => HS.out _ b0) (.inl ⟨by rfl, ?_⟩) ?_
              · rintro w' ⟨L, hcl, h0, hS⟩
                obtain ⟨z0, z1⟩ := hS (closedB_before hcl (i := 8) (by kernel_rfl) h0)
                clear hS hcl h0
                go_simp
              simp only [Act.put, List.getElem_toArray, List.getElem_cons_zero, List.getElem_cons_succ, List.setIfInBounds_toArray, List.set_cons_zero, List.set_cons_succ]
              refine wpAnyL_take (i := 9) (v := .int .i64 (2 * (j : Int))) (fuel := 7) rfl (by kernel_rfl) (by kernel_rfl) (by kernel_rfl) (by kernel_rfl) (fun _ _ _ h => h) (fun L w' => by rw [getD_set_ne true (by omega)]) (fun _ => HS.out _ b0) (.inl ⟨by rfl, ?_⟩) ?_
              · rintro w' ⟨L, hcl, h0, hS⟩
                obtain ⟨z0, z1⟩ := hS (closedB_before hcl (i := 9) (by kernel_rfl) h0)
                clear hS hcl h0
                go_simp
              simp only [Act.put, List.getElem_toArray, List.getElem_cons_zero, List.getElem_cons_succ, List.setIfInBounds_toArray, List.set_cons_zero, List.set_cons_succ]
              refine wpAnyL_take (i := 10) (v := .int .i64 (2 * (j : Int) + 1)) (fuel := 6) rfl (by kernel_rfl) (by kernel_rfl) (by kernel_rfl) (by kernel_rfl) (fun _ _ _ h => h) (fun L w' => by rw [getD_set_ne true (by omega)]) (fun _ => HS.out _ b0) (.inl ⟨by rfl, ?_⟩) ?_
              · rintro w' ⟨L, hcl, h0, hS⟩
                obtain ⟨z0, z1⟩ := hS (closedB_before hcl (i := 10) (by kernel_rfl) h0)
                clear hS hcl h0
                go_simp
              simp only [Act.put, List.getElem_toArray, List.getElem_cons_zero, List.getElem_cons_succ, List.setIfInBounds_toArray, List.set_cons_zero, List.set_cons_succ]
              refine wpAnyL_take (i := 11) (v := .pointer (some ⟨g, 2 * j + 1, none⟩)) (fuel := 5) rfl (by kernel_rfl) (by kernel_rfl) (by kernel_rfl) (by kernel_rfl) (fun _ _ _ h => h) (fun L w' => by rw [getD_set_ne true (by omega)]) (fun _ => HS.out _ b0) (.inl ⟨by rfl, ?_⟩) ?_
              · rintro w' ⟨L, hcl, h0, hS⟩
                obtain ⟨z0, z1⟩ := hS (closedB_before hcl (i := 11) (by kernel_rfl) h0)
                clear hS hcl h0
                go_simp
              simp only [Act.put, List.getElem_toArray, List.getElem_cons_zero, List.getElem_cons_succ, List.setIfInBounds_toArray, List.set_cons_zero, List.set_cons_succ]
              refine wpAnyL_take (i := 12) (v := .string b) (fuel := 4) rfl (by kernel_rfl) (by kernel_rfl) (by kernel_rfl) (by kernel_rfl) (fun _ _ _ h => h) (fun L w' => by rw [getD_set_ne true (by omega)]) (fun _ => HS.out _ b0) (.inl ⟨by rfl, ?_⟩) ?_
              · rintro w' ⟨L, hcl, h0, hS⟩
                obtain ⟨z0, z1⟩ := hS (closedB_before hcl (i := 12) (by kernel_rfl) h0)
                clear hS hcl h0
                go_simp
              simp only [Act.put, List.getElem_toArray, List.getElem_cons_zero, List.getElem_cons_succ, List.setIfInBounds_toArray, List.set_cons_zero, List.set_cons_succ]
              refine wpAnyL_one (i := 13) (fuel := 3) (by kernel_rfl) rfl (fun K hK => ?_)
              go_simp
              refine hK.out _ _ (fun h => HS.out _ b5) (fun _ => ?_)
              clear hK K
              try simp only [Act.put, List.getElem_toArray, List.getElem_cons_zero, List.getElem_cons_succ, List.setIfInBounds_toArray, List.set_cons_zero, List.set_cons_succ]
              refine wpAnyL_one (i := 14) (fuel := 2) (by kernel_rfl) rfl (fun K hK => ?_)
              go_simp
              go_at_call 116
              refine (sum2_any a b wr _ (.inr rfl) has hbs hKr).mono ?_
              rintro e w5 ⟨rfl, hb5⟩
              have b6 := b5.trans (hb5.mono b5.size)
              refine hK.out _ _ (fun h => HS.out _ b6) (fun _ => ?_)
              clear hK K
              try simp only [Act.put, List.getElem_toArray, List.getElem_cons_zero, List.getElem_cons_succ, List.setIfInBounds_toArray, List.set_cons_zero, List.set_cons_succ]
              refine wpAnyL_take (i := 15) (v := .pointer (some ⟨g, j, none⟩)) (fuel := 1) rfl (by kernel_rfl) (by kernel_rfl) (by kernel_rfl) (by kernel_rfl) (fun _ _ _ h => h) (fun L w' => by rw [getD_set_ne true (by omega)]) (fun _ => HS.out _ b6) (.inl ⟨by rfl, ?_⟩) ?_
              · rintro w' ⟨L, hcl, h0, hS⟩
                obtain ⟨z0, z1⟩ := hS (closedB_before hcl (i := 15) (by kernel_rfl) h0)
                clear hS hcl h0
                go_simp
              simp only [Act.put, List.getElem_toArray, List.getElem_cons_zero, List.getElem_cons_succ, List.setIfInBounds_toArray, List.set_cons_zero, List.set_cons_succ]
              have ho6 := hownr.after b6
              have hc6 := (b6.cell (p := ⟨g, j, none⟩) hgs).trans hcj
              have hf6 := (b6.frozen (p := ⟨g, j, none⟩) hgs).trans (hfz j)
              have hst := ho6.stored j (hash2 a b)
              rw [hset] at hst
              have Hst := Lib.hid hst
              have Hb6 := Lib.hid b6
              clear hst ho6
              refine wpAnyL_one (i := 16) (fuel := 0) (by kernel_rfl) rfl (fun K hK => ?_)
              go_simp
              refine hK.out _ _ (fun h => (by cases h)) (fun _ => ?_)
              clear hK K
              try simp only [Act.put, List.getElem_toArray, List.getElem_cons_zero, List.getElem_cons_succ, List.setIfInBounds_toArray, List.set_cons_zero, List.set_cons_succ]
              refine wpAnyL_done (by kernel_rfl) ?_ 0
              obtain ⟨q1, q2⟩ := Hst.out
              have hS6 : StepL B wr (w5.setCell ⟨g, j, none⟩ (.string (hash2 a b))) := (StepL.below Hb6.out hzr).trans (StepL.grown q2 (Nat.le_trans hzr Hb6.out.size) (fun r e => by cases e; exact ⟨hgB, (hownr.after Hb6.out).cellsAt rfl⟩))
              have hJ6 := hJ _ _ _ hJr hS6
              have hK6 := hKr.belowB hS6.1 hkB
              have hz6 := Nat.le_trans hzr hS6.1.size
              gi_wp2
              go_roundw
              case rel => exact ⟨j + 1, by omega, by go_num, q1, hJ6, hK6, hz6⟩
              case measure => simp [RowKit.intOf]; omega
            · obtain rfl : j = L.length / 2 := by omega
              have hm1 : (0 : Int) ≤ (L.length : Int) / 2 := by omega
              have hcap := hownr.cap
              rw [halved_length L _ (Nat.le_refl _)] at hcap
              have wq : IntKind.i64.wrap ((L.length : Int) / 2) = (L.length : Int) / 2 := by rw [IntKind.wrap_i64]; omega
              have hcz : (L.length : Int) / 2 ≤ (c : Int) := by omega
              have htn : ((L.length : Int) / 2).toNat = L.length / 2 := by omega
              gi_wp2
              refine wpIn_wide.2 ?_
              have c0 : Below wr.heap.size wr wr.drew := (Below.refl _ _).drew
              have c5 : Below wr.heap.size wr (wr.alloc (.cells #[.string z, .string z] 9)).drew := ((Below.refl _ _).alloc (Nat.le_refl _) _).drew
              refine wp_region_held_drew (S := fun _ => True) (by kernel_rfl) (trivial) (fun hHeld => ?_)
              refine wpAnyH_take (i := 0) (v := .slice p L.length c) rfl (by kernel_rfl) (by kernel_rfl) (by kernel_rfl) (fun _ _ _ h => h) (.inl ⟨by rfl, ?_⟩) (by assumption) ?_
              · intro w0 hSw
                go_simp
              simp only [Act.put, List.getElem_toArray, List.getElem_cons_zero, List.setIfInBounds_toArray, List.set_cons_zero, List.set_cons_succ]
              refine wpAnyH_take (i := 1) (v := .slice p L.length c) rfl (by kernel_rfl) (by kernel_rfl) (by kernel_rfl) (fun _ _ _ h => h) (.inl ⟨by rfl, ?_⟩) (by assumption) ?_
              · intro w0 hSw
                go_simp
              simp only [Act.put, List.getElem_toArray, List.getElem_cons_zero, List.getElem_cons_succ, List.setIfInBounds_toArray, List.set_cons_zero, List.set_cons_succ]
              refine wpAnyH_take (i := 2) (v := .int .i64 L.length) rfl (by kernel_rfl) (by kernel_rfl) (by kernel_rfl) (fun _ _ _ h => h) (.inl ⟨by rfl, ?_⟩) (by assumption) ?_
              · intro w0 hSw
                go_simp
              simp only [Act.put, List.getElem_toArray, List.getElem_cons_zero, List.getElem_cons_succ, List.setIfInBounds_toArray, List.set_cons_zero, List.set_cons_succ]
              refine wpAnyH_take (i := 3) (v := .int .i64 ((L.length : Int) / 2)) rfl (by kernel_rfl) (by kernel_rfl) (by kernel_rfl) (fun _ _ _ h => h) (.inl ⟨by rfl, ?_⟩) (by assumption) ?_
              · intro w0 hSw
                go_simp
              simp only [Act.put, List.getElem_toArray, List.getElem_cons_zero, List.getElem_cons_succ, List.setIfInBounds_toArray, List.set_cons_zero, List.set_cons_succ]
              refine wpAnyH_take (i := 4) (v := .slice p (L.length / 2) c) rfl (by kernel_rfl) (by kernel_rfl) (by kernel_rfl) (fun _ _ _ h => h) (.inl ⟨by rfl, ?_⟩) (by assumption) ?_
              · intro w0 hSw
                (go_simp; first | done | rw [htn])
              simp only [Act.put, List.getElem_toArray, List.getElem_cons_zero, List.getElem_cons_succ, List.setIfInBounds_toArray, List.set_cons_zero, List.set_cons_succ]
              refine wpAnyH_take (i := 5) (v := .string z) rfl (by kernel_rfl) (by kernel_rfl) (by kernel_rfl) (fun _ _ _ h => h) (.inl ⟨by rfl, ?_⟩) (by assumption) ?_
              · intro w0 hSw
                go_simp
              simp only [Act.put, List.getElem_toArray, List.getElem_cons_zero, List.getElem_cons_succ, List.setIfInBounds_toArray, List.set_cons_zero, List.set_cons_succ]
              refine wpAnyH_take (i := 6) (v := .string z) rfl (by kernel_rfl) (by kernel_rfl) (by kernel_rfl) (fun _ _ _ h => h) (.inl ⟨by rfl, ?_⟩) (by assumption) ?_
              · intro w0 hSw
                go_simp
              simp only [Act.put, List.getElem_toArray, List.getElem_cons_zero, List.getElem_cons_succ, List.setIfInBounds_toArray, List.set_cons_zero, List.set_cons_succ]
              refine wpAnyH_ready (rs := [7]) (by kernel_rfl) (by simp) ?_
              refine AllReadyH.cons rfl (fun K hK => ?_) AllReadyH.nil
              go_simp
              refine hK.out _ _ (trivial) (fun hHeld => ?_)
              clear hK K
              try simp only [Act.put, List.getElem_toArray, List.getElem_cons_zero, List.getElem_cons_succ, List.setIfInBounds_toArray, List.set_cons_zero, List.set_cons_succ]
              refine wpAnyH_ready (rs := [8]) (by kernel_rfl) (by simp) ?_
              refine AllReadyH.cons rfl (fun K hK => ?_) AllReadyH.nil
              go_simp
              go_at_call 116
              refine (sum2_any z z wr _ (.inr rfl) HL.out.2.2.1 HL.out.2.2.1 hKr).mono ?_
              rintro e w5 ⟨rfl, hb5⟩
              have c6 := c5.trans (hb5.mono c5.size)
              refine hK.out _ _ (trivial) (fun hHeld => ?_)
              clear hK K
              try simp only [Act.put, List.getElem_toArray, List.getElem_cons_zero, List.getElem_cons_succ, List.setIfInBounds_toArray, List.set_cons_zero, List.set_cons_succ]
              refine wpAnyH_take (i := 9) (v := .slice p (L.length / 2) c) rfl (by kernel_rfl) (by kernel_rfl) (by kernel_rfl) (fun _ _ _ h => h) (.inl ⟨by rfl, ?_⟩) (by assumption) ?_
              · intro w0 hSw
                go_simp
              simp only [Act.put, List.getElem_toArray, List.getElem_cons_zero, List.getElem_cons_succ, List.setIfInBounds_toArray, List.set_cons_zero, List.set_cons_succ]
              refine wpAnyH_take (i := 10) (v := .string (hash2 z z)) rfl (by kernel_rfl) (by kernel_rfl) (by kernel_rfl) (fun _ _ _ h => h) (.inl ⟨by rfl, ?_⟩) (by assumption) ?_
              · intro w0 hSw
                go_simp
              simp only [Act.put, List.getElem_toArray, List.getElem_cons_zero, List.getElem_cons_succ, List.setIfInBounds_toArray, List.set_cons_zero, List.set_cons_succ]
              refine wpAnyH_done (by kernel_rfl) ?_ 0
              have ho6 := hownr.after c6
              have hS6 := StepL.below c6 hzr
              have hJ6 := hJ _ _ _ hJr hS6
              have hK6 := hKr.belowB hS6.1 hkB
              have hz6 := Nat.le_trans hzr hS6.1.size
              have hhalf := (hownr.after c6).half (m := L.length / 2) (by rw [halved_length L _ (Nat.le_refl _)]; omega)
              rw [halved_done] at hhalf
              have hup : levelUp z L = halfs L := by unfold levelUp; rw [HE.out]
              have hnew : (pre ++ [(Value.slice p L.length c, L, z)]).map (·.2) ++ levelsB (d - (k + 1)) (levelUp z L) (hash2 z z) = levelsB d xs noughtB := by
                obtain ⟨q, hq⟩ : ∃ q, d - k = q + 1 := ⟨d - k - 1, by omega⟩
                have h := HL.out.1
                rw [hq] at h
                rw [show d - (k + 1) = q from by omega, ← h]
                simp [levelsB]
              have hnl : (levelUp z L).length ≤ 1048576 := Nat.le_trans (levelUp_length z L) HL.out.2.1
              have hns : ∀ x ∈ levelUp z L, x.size ≤ 1048576 := by
                intro x hx
                unfold levelUp halfs at hx
                obtain ⟨i, _, rfl⟩ := List.mem_map.1 hx
                rw [hash2_size]; omega
              have HN := Lib.hid (And.intro hnew (And.intro hnl (And.intro (show (hash2 z z).size ≤ 1048576 by rw [hash2_size]; omega) hns)))
              clear hnew hnl hns
              rw [← hup] at hhalf
              have HH := Lib.hid hhalf
              clear hhalf hup wq hcz htn hcap hm1 hEl hq2 hownr ho6
              gi_wp2
              go_roundw
              case rel => exact ⟨k + 1, _, levelUp z L, hash2 z z, by omega, by go_num, rfl, HH.out, hJ6, hK6, hz6, HN⟩
              case measure => simp [RowKit.intOf]; omega
      · gi_wp2
        refine bodyPost_ret (results_none rfl _ _ _) rfl ?_
        exact ⟨⟨_, rfl⟩, .inr ⟨_, hx1⟩⟩
    · obtain rfl : k = d := by omega
      obtain ⟨f1, t1, a1, b1', hy1, hR1⟩ := hY pre (.slice p L.length c, L, z) wr hJ0 hown.strs HL.out.2.1
      have hfin : (pre ++ [(Value.slice p L.length c, L, z)]).map (·.2) = levelsB k xs noughtB := by
        have h := HL.out.1
        rw [Nat.sub_self] at h
        rw [← h]; simp [levelsB]
      have HFin := Lib.hid hfin
      clear hown hfin
      simp only [encL] at hy1
      gi_wp2
      refine hR1.mono ?_
      clear hy1
      rintro e W1 (⟨rfl, hJ1, hk1⟩ | ⟨rfl, hx1⟩)
      · gi_wp2
        go_end0
        exact ⟨⟨_, rfl⟩, .inl ⟨_, HFin.out, hJ1⟩⟩
      · gi_wp2
        go_end0
        exact ⟨⟨_, rfl⟩, .inr ⟨_, hx1⟩⟩
end Go.Proofs.YtpfmdhcmhcoddaaGreatDoor
