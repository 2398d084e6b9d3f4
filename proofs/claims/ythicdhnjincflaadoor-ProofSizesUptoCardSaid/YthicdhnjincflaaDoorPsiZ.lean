/- The walk of ProofSizes. -/
import Derived.Test.YthicdhnjincflaaDoorPszA
import Derived.Test.YthicdhnjincflaaDoorPonA
namespace Go.Proofs.YthicdhnjincflaaDoor
open Go.RowKit Go.Shelf Go.Lib
attribute [local go_sem] Oper.semAt_some

/-- 'make([]string, n)' -/
theorem wpList_makeTs {ops : Array Oper} {rest : List Oper} {o : Oper} {a : Act} {w : World} {Q : Exit → Act → World → Prop} (hgd : o.guard = none) (l c : Operand) (t : TypeId) (ho : o.op = Op.makeSlice t l c)
    (base : Nat) (ht : Tryd.prog.underlying t = some (.slice 9))
    (n : Nat) (L C : Int) (hl : a.eval l = .int .i64 L) (hc : a.eval c = .int .i64 C) (hL : L = n) (hC : C = n) (hn : n ≤ 1099511627776) (hbase : base ≤ w.heap.size)
    (h : ∀ w', OwnS base w' (.slice (some ⟨w.heap.size, 0, none⟩) n n) (List.replicate n ⟨#[]⟩) → w.grownBy w' none → wpList Tryd.prog ops Q rest (a.put o.dst (.slice (some ⟨w.heap.size, 0, none⟩) n n)) w') : wpList Tryd.prog ops Q (o :: rest) a w := by
  obtain ⟨i0, hi0, hz0, hz1, hz2⟩ := info_parts infoStr
  refine wpList_make_full w hgd l c t ho base 9 i0 (.string ⟨#[]⟩) 1 ht hi0 hz0 hz1 .i64 .i64 L C n hl hc hL hC (by rw [hz2]; omega) (by unfold maxLen; omega) hbase ?_
  intro w' h1 h2
  refine h w' ?_ h2
  have e1 : (madeCells (Value.string ⟨#[]⟩).cells (n * 1)).toList = (List.replicate n (⟨#[]⟩ : ByteArray)).map Value.string := by
    have := toList_madeCells_one (.string ⟨#[]⟩) (n * 1)
    rw [show (Value.string ⟨#[]⟩).cells = #[Value.string ⟨#[]⟩] from rfl, this, Nat.mul_one]
    simp
  rw [e1] at h1
  unfold OwnS
  rw [List.length_replicate]
  exact h1
theorem infoByteZ : (Tryd.prog.info? 5).map (fun i => (i.zero, i.size, i.bytes)) = some (some (.int .u8 0), 1, 1) := by kernel_rfl
theorem replicate_set (k : Nat) (b : ByteArray) : (List.replicate (k + 1) (⟨#[]⟩ : ByteArray)).set k b = List.replicate k ⟨#[]⟩ ++ [b] := by
  induction k with
  | zero => rfl
  | succ k ih =>
    rw [List.replicate_succ]
    show (⟨#[]⟩ : ByteArray) :: ((List.replicate (k + 1) (⟨#[]⟩ : ByteArray)).set k b) = _
    rw [ih]
    rfl
theorem noughts_bt (k g : Nat) : (noughtsP (k + 1) g).map bt = List.replicate k (⟨#[]⟩ : ByteArray) ++ [bt (List.replicate g 0)] := by
  unfold noughtsP
  rw [if_neg (by omega), Nat.add_sub_cancel, List.map_append, List.map_replicate]
  rfl
theorem noughts_len (m g : Nat) : (noughtsP m g).length = m := by
  unfold noughtsP
  split
  · simp; omega
  · simp; omega
theorem noughts_size {m g : Nat} : ∀ s ∈ noughtsP m g, s.length ≤ g := fun s hs => by
  unfold noughtsP at hs
  split at hs
  · cases hs
  · rcases List.mem_append.1 hs with hs | hs
    · rw [(List.mem_replicate.1 hs).2]; simp
    · rw [List.mem_singleton.1 hs]; simp
set_option maxRecDepth 100000 in
set_option maxHeartbeats 6400000 in
theorem sizesLaw_any (s0 s1 : ByteArray) (s2 s3 : Int) (w : World) (_ : s0.size ≤ 1048576) (g1 : s1.size ≤ 1048576) (_ : (Lit.int .i64 s2).wf = true) (_ : (Lit.int .i64 s3).wf = true) (hK : KecT w) :
    Calls Tryd.prog 3 #[.string s0, .string s1, .int .i64 s2, .int .i64 s3] w fun e w' => e = .returned (.bool true) ∧ Below w.heap.size w w' := by
  obtain ⟨root, rfl, -⟩ := bytes_list s0
  obtain ⟨key, rfl, hkl⟩ := bytes_list s1
  have HSH := Lib.hid (shown07_any w hK)
  have HKT := Lib.hid hK
  by_cases c1 : s2 < 0
  · go_enter Tryd.func3, Tryd.ntmps3
    go_wp2_with fail
    refine HSH.out.mono ?_
    rintro e w1 ⟨rfl, hb1⟩
    have HB1 := Lib.hid hb1
    clear hb1 HSH
    go_wp2_with fail
    go_ret
    exact ⟨rfl, HB1.out⟩
  · have c1d : decide (s2 < 0) = false := decide_eq_false c1
    by_cases c2 : 200 < s2
    · go_enter Tryd.func3, Tryd.ntmps3
      go_wp2_with fail
      refine HSH.out.mono ?_
      rintro e w1 ⟨rfl, hb1⟩
      have HB1 := Lib.hid hb1
      clear hb1 HSH
      go_wp2_with fail
      go_ret
      exact ⟨rfl, HB1.out⟩
    · have c2d : decide (200 < s2) = false := decide_eq_false c2
      by_cases c3 : s3 < 0
      · go_enter Tryd.func3, Tryd.ntmps3
        go_wp2_with fail
        refine HSH.out.mono ?_
        rintro e w1 ⟨rfl, hb1⟩
        have HB1 := Lib.hid hb1
        clear hb1 HSH
        go_wp2_with fail
        go_ret
        exact ⟨rfl, HB1.out⟩
      · have c3d : decide (s3 < 0) = false := decide_eq_false c3
        by_cases c4 : 100000 < s3
        · go_enter Tryd.func3, Tryd.ntmps3
          go_wp2_with fail
          refine HSH.out.mono ?_
          rintro e w1 ⟨rfl, hb1⟩
          have HB1 := Lib.hid hb1
          clear hb1 HSH
          go_wp2_with fail
          go_ret
          exact ⟨rfl, HB1.out⟩
        · have c4d : decide (100000 < s3) = false := decide_eq_false c4
          obtain ⟨m, rfl⟩ : ∃ m : Nat, s2 = (m : Int) := ⟨s2.toNat, by omega⟩
          obtain ⟨g, rfl⟩ : ∃ m : Nat, s3 = (m : Int) := ⟨s3.toNat, by omega⟩
          have hm : m ≤ 200 := by omega
          have hg : g ≤ 100000 := by omega
          obtain ⟨XS, hXS⟩ : ∃ l, noughtsP m g = l := ⟨_, rfl⟩
          have hxl : XS.length = m := by rw [← hXS]; exact noughts_len m g
          have hxs : ∀ s ∈ XS, s.length ≤ 1099511627776 := fun s hs => by
            rw [← hXS] at hs
            have := noughts_size s hs
            omega
          have hxd : Dull XS := by rw [← hXS]; exact noughts_dull m g
          obtain ⟨xa, ea, hra⟩ : ∃ x e, checkP keccakL root key XS = (x, e) := ⟨_, _, rfl⟩
          have HC1 : Hid (∀ v W, Strs W v (XS.map bt) → KecT W → Calls Tryd.prog 14 #[.string ⟨root.toArray⟩, .string ⟨key.toArray⟩, v] W fun e w' => e = .returned (.tuple #[.string ⟨xa.toArray⟩, .bool (!xa.isEmpty), .int .i64 ea]) ∧ Below W.heap.size W w') := Lib.hid fun v W hv hk => by
            have h := check_any root key XS v W hv (by omega) hk
            rw [hra] at h
            exact h
          have HC2 : Hid (∀ v W, Strs W v (XS.map bt) → Calls Tryd.prog 15 #[.string ⟨root.toArray⟩, .string ⟨key.toArray⟩, v] W fun e w' => e = .returned (.tuple #[.string ⟨xa.toArray⟩, .bool (!xa.isEmpty), .int .i64 ea]) ∧ Below W.heap.size W w') := Lib.hid fun v W hv => by
            have h := check07_dull root key XS v W hv (by omega) hxs (by omega) hxd
            rw [hra] at h
            exact h
          have HXS := Lib.hid hXS
          have HM := Lib.hid hm
          have HG := Lib.hid hg
          have y1 : (xa == xa) = true := beq_self_eq_true xa
          clear hK g1 hkl hxl hxs hxd hra hXS hm hg
          cases m with
          | zero =>
            have HXN := Lib.hid (show XS = [] from by rw [← HXS.out]; rfl)
            go_enter Tryd.func3, Tryd.ntmps3
            go_wp2_with fail
            refine HSH.out.mono ?_
            rintro e w1 ⟨rfl, hb1⟩
            have HB1 := Lib.hid hb1
            clear hb1 HSH
            go_wp2_with (at_make; refine wpList_makeTs rfl _ _ 23 rfl w.heap.size Tryd.underlying23 0 _ _ rfl rfl rfl rfl (by decide) HB1.out.size ?_)
            intro w3 ho3 hg3
            have HB3 := Lib.hid (HB1.out.grown hg3 HB1.out.size (fun r e => by cases e))
            have HS3 := Lib.hid (show Strs w3 (.slice (some ⟨w1.heap.size, 0, none⟩) 0 0) (XS.map bt) from by rw [HXN.out]; exact OwnS.strs ho3)
            clear ho3 hg3
            go_wp2_with fail
            refine (HC1.out _ _ HS3.out (HKT.out.belowP HB3.out)).mono ?_
            rintro e w4 ⟨rfl, hb4⟩
            have HB4 := Lib.hid (HB3.out.trans (hb4.mono HB3.out.size))
            have HS4 := Lib.hid (HS3.out.below hb4)
            clear hb4 HB3 HS3
            go_wp2_with fail
            refine (HC2.out _ _ HS4.out).mono ?_
            rintro e w5 ⟨rfl, hb5⟩
            have HB5 := Lib.hid (HB4.out.trans (hb5.mono HB4.out.size))
            clear hb5 HB4 HS4
            go_wp2_with fail
            go_ret
            exact ⟨rfl, HB5.out⟩
          | succ k =>
            have HXB := Lib.hid (show XS.map bt = List.replicate k (⟨#[]⟩ : ByteArray) ++ [bt (List.replicate g 0)] from by rw [← HXS.out]; exact noughts_bt k g)
            obtain ⟨m, hmk⟩ : ∃ m, k + 1 = m := ⟨_, rfl⟩
            have i1 : ((k + 1 : Nat) : Int) = (m : Int) := by omega
            have i2 : (m : Int) - 1 = (k : Int) := by omega
            have i3 : (0 : Int) ≤ (k : Int) := by omega
            have i4 : (k : Int) < (m : Int) := by omega
            have i5 : 0 < m := by omega
            have i5d : decide (0 < m) = true := decide_eq_true i5
            have i6 : wrap64 (k : Int) = (k : Int) := by have := HM.out; unfold wrap64; omega
            have HMK := Lib.hid hmk
            rw [hmk] at c1 c1d c2 c2d ⊢
            clear hmk i1
            go_enter Tryd.func3, Tryd.ntmps3
            go_wp2_with fail
            refine HSH.out.mono ?_
            rintro e w1 ⟨rfl, hb1⟩
            have HB1 := Lib.hid hb1
            clear hb1 HSH
            go_wp2_with (at_make; refine wpList_makeTs rfl _ _ 23 rfl w.heap.size Tryd.underlying23 m _ _ rfl rfl rfl rfl (by have := HM.out; have := HMK.out; omega) HB1.out.size ?_)
            intro w2 ho2 hg2
            have HB2 := Lib.hid (HB1.out.grown hg2 HB1.out.size (fun r e => by cases e))
            have hlt2 := (ho2.lt _ rfl).2
            have HO2 := Lib.hid ho2
            clear ho2 hg2 HB1
            go_wp2_with (at_make; refine wpList_makeB rfl _ _ 24 rfl w2.heap.size 5 Tryd.underlying24 infoByteZ g _ _ rfl rfl ?c1 ?c2 ?c3 (Nat.le_refl _) ?_)
            case c1 => rfl
            case c2 => rfl
            case c3 => have := HG.out; omega
            intro w3 ho3 hg3
            have HB3 := Lib.hid (HB2.out.grown hg3 HB2.out.size (fun r e => by cases e))
            have hstr := ho3.str (P := Tryd.prog) (src := 24) (dst := 9) Tryd.underlying24 Tryd.underlying5 Tryd.underlying9
            have HO3 := Lib.hid (HO2.out.kept hg3 (.inr (fun e => by cases e)))
            have hck : w3.cell? ⟨w1.heap.size, k, none⟩ = some (.string ⟨#[]⟩) := by
              obtain ⟨p9, c9, hv9, _, h9⟩ := HO3.out.strs
              rw [List.length_replicate] at hv9
              cases hv9
              rcases h9 with h9 | ⟨bk9, o9, h91, _, h93⟩
              · have := congrArg List.length h9
                simp at this
                omega
              · cases h91
                have := h93 k ⟨#[]⟩ (by rw [List.getElem?_replicate, if_pos (by omega)])
                rwa [Nat.zero_add] at this
            have hfk : w3.frozen? ⟨w1.heap.size, k, none⟩ = false := World.ownsRow.frozenAt (by have h := HO3.out; unfold OwnS at h; rw [List.length_replicate] at h; exact h) k
            have hst := OwnS.stored HO3.out k ⟨(List.replicate g 0).toArray⟩
            have HS4 := Lib.hid (show Strs (w3.setCell ⟨w1.heap.size, k, none⟩ (.string ⟨(List.replicate g 0).toArray⟩)) (.slice (some ⟨w1.heap.size, 0, none⟩) m m) (XS.map bt) from by
              have h := hst.1.strs
              rw [show (List.replicate m (⟨#[]⟩ : ByteArray)).set k ⟨(List.replicate g 0).toArray⟩ = XS.map bt from by rw [HXB.out, ← HMK.out]; exact replicate_set k _] at h
              exact h)
            have HB4 := Lib.hid (HB3.out.setCell (p := ⟨w1.heap.size, k, none⟩) (show w.heap.size ≤ w1.heap.size from (HO2.out.lt _ rfl).1) (.string ⟨(List.replicate g 0).toArray⟩))
            obtain ⟨Z, hZ⟩ : ∃ z, (⟨(List.replicate g 0).toArray⟩ : ByteArray) = z := ⟨_, rfl⟩
            rw [hZ] at HS4 HB4 hstr
            clear ho3 hg3 HB3 HO3 hst HO2 HB2 hlt2 hZ
            go_wp2_with fail
            refine (HC1.out _ _ HS4.out (HKT.out.belowP HB4.out)).mono ?_
            rintro e w5 ⟨rfl, hb5⟩
            have HB5 := Lib.hid (HB4.out.trans (hb5.mono HB4.out.size))
            have HS5 := Lib.hid (HS4.out.below hb5)
            clear hb5 HB4 HS4
            go_wp2_with fail
            refine (HC2.out _ _ HS5.out).mono ?_
            rintro e w6 ⟨rfl, hb6⟩
            have HB6 := Lib.hid (HB5.out.trans (hb6.mono HB5.out.size))
            clear hb6 HB5 HS5
            go_wp2_with fail
            go_ret
            exact ⟨rfl, HB6.out⟩
end Go.Proofs.YthicdhnjincflaaDoor
