/- Contracts of the reference's Form and Read. -/
import Derived.Test.YthicdhnjincflaaDoorNibsA
import Derived.Deep.RegionLaw
namespace Go.Proofs.YthicdhnjincflaaDoor
open Go.RowKit

set_option maxRecDepth 100000 in
set_option maxHeartbeats 800000 in
theorem readRef_any (s : ByteArray) (w : World) (hs : s.size ≤ 1073741824) :
    Calls Tryd.prog 67 #[.string s] w fun e w' => e = .returned (readV s.data.toList) ∧ Below w.heap.size w w' := by
  obtain ⟨L, hL⟩ : ∃ L : ByteArray, (⟨(halves s.data.toList).toArray⟩ : ByteArray) = L := ⟨_, rfl⟩
  have hd : L.data.toList = halves s.data.toList := by rw [← hL]
  have hn : L.size = 2 * s.size := by rw [← len_data, hd, halves_length, len_data]
  have hn' : L.size ≤ 2147483648 := by omega
  have hcall : ∀ wx, Calls Tryd.prog 44 #[.string s] wx fun e w' => e = .returned (.string L) ∧ Below wx.heap.size wx w' := fun wx => by
    rw [← hL]; exact ofRef_any s wx (by omega)
  have Hcall := Lib.hid hcall
  clear hcall
  by_cases h0 : L.size = 0
  · have hr := readV_of (read_nil (l := s.data.toList) (by rw [← hd]; exact List.length_eq_zero_iff.1 h0))
    have Hr := Lib.hid hr
    have h0' : ((L.size : Int) == 0) = true := by simp [h0]
    clear hr h0 hL hd hn
    go_enter Tryd.func67, Tryd.ntmps67
    go_wp2_with (go_at_call 44; refine (Hcall.out _).mono ?_; rintro e w1 ⟨rfl, hb1⟩)
    go_ret3
    exact ⟨by rw [Hr.out]; rfl, hb1⟩
  · have h2 : 2 ≤ L.size := by omega
    have hr := read_of (l := s.data.toList) hd h2
    have h0' : ((L.size : Int) == 0) = false := by simp [h0]
    have x2 := ext_drop L 2
    have x1 := ext_drop L 1
    have X2 := Lib.hid x2
    have X1 := Lib.hid x1
    clear x2 x1 hL hd hn h0
    by_cases c1 : 3 < (L[0].toNat : Int)
    · have hr' := readV_of (hr.trans (by rw [if_pos (.inl (by omega))]))
      have Hr := Lib.hid hr'
      clear hr hr'
      go_enter Tryd.func67, Tryd.ntmps67
      go_wp2_with (go_at_call 44; refine (Hcall.out _).mono ?_; rintro e w1 ⟨rfl, hb1⟩)
      go_ret3
      exact ⟨by rw [Hr.out]; rfl, hb1⟩
    · by_cases c2 : L[0].toNat % 2 = 0
      · have c2' : ((L[0].toNat : Int) % 2 == 0) = true := by simp; omega
        by_cases c3 : L[1].toNat = 0
        · have c3' : ((L[1].toNat : Int) != 0) = false := by simp [c3]
          have hr' := readV_of (hr.trans (by rw [if_neg (by omega), if_pos c2]))
          have Hr := Lib.hid hr'
          have hq : ((L[0].toNat : Int) == 2) = decide (L[0].toNat = 2) := by rw [Bool.eq_iff_iff]; simp; omega
          clear hr hr' c2 c3
          go_enter Tryd.func67, Tryd.ntmps67
          go_wp2_with (go_at_call 44; refine (Hcall.out _).mono ?_; rintro e w1 ⟨rfl, hb1⟩)
          go_quiet (fail)
          go_wp2
          go_ret3
          refine ⟨?_, Below.drewN hb1 _⟩
          rw [Hr.out, ← X2.out]
          rfl
        · have c3' : ((L[1].toNat : Int) != 0) = true := by simp; omega
          have hr' := readV_of (hr.trans (by rw [if_pos (.inr ⟨c2, c3⟩)]))
          have Hr := Lib.hid hr'
          clear hr hr' c2 c3
          go_enter Tryd.func67, Tryd.ntmps67
          go_wp2_with (go_at_call 44; refine (Hcall.out _).mono ?_; rintro e w1 ⟨rfl, hb1⟩)
          go_ret3
          exact ⟨by rw [Hr.out]; rfl, hb1⟩
      · have c2' : ((L[0].toNat : Int) % 2 == 0) = false := by simp; omega
        have hr' := readV_of (hr.trans (by rw [if_neg (by omega), if_neg c2]))
        have Hr := Lib.hid hr'
        have hq : ((L[0].toNat : Int) == 3) = decide (L[0].toNat = 3) := by rw [Bool.eq_iff_iff]; simp; omega
        clear hr hr' c2
        go_enter Tryd.func67, Tryd.ntmps67
        go_wp2_with (go_at_call 44; refine (Hcall.out _).mono ?_; rintro e w1 ⟨rfl, hb1⟩)
        go_quiet (fail)
        go_wp2
        go_ret3
        refine ⟨?_, Below.drewN hb1 _⟩
        rw [Hr.out, ← X1.out]
        rfl

/-- the loop that joins two half bytes, once the half bytes lie in a row of the call's own: its end -/
theorem pairUp_all {L : List UInt8} {m : Nat} (h : ¬ m < L.length) : pairUp (L.take m) = pairUp L := by rw [List.take_of_length_le (by omega)]
theorem pairUp_len (L : List UInt8) (m : Nat) : (pairUp (L.take m)).length ≤ m := by
  have h : ∀ l : List UInt8, (pairUp l).length ≤ l.length := by
    intro l
    induction l using pairUp.induct with
    | case1 a b r ih => simp [pairUp]; omega
    | case2 l hl =>
      match l, hl with
      | [], _ => simp [pairUp]
      | [a], _ => simp [pairUp]
      | a :: b :: r, hl => exact (hl a b r rfl).elim
  have := h (L.take m)
  rw [List.length_take] at this
  omega

set_option maxRecDepth 100000 in
set_option maxHeartbeats 1600000 in
theorem formRef_any (s : ByteArray) (leaf : Bool) (w : World) (hs : s.size ≤ 1073741824) :
    Calls Tryd.prog 122 #[.string s, .bool leaf] w fun e w' => e = .returned (formV s.data.toList leaf) ∧ Below w.heap.size w w' := by
  by_cases hp : isPath s.data.toList = true
  · have Hf : Hid (formV s.data.toList leaf = .tuple #[.string ⟨(pairUp (formHalves s.data.toList leaf)).toArray⟩, .int .i64 0]) := formV_of (by unfold form; rw [if_pos hp])
    obtain ⟨L, hL⟩ : ∃ L, formHalves s.data.toList leaf = L := ⟨_, rfl⟩
    rw [hL] at Hf
    by_cases ho : s.size % 2 = 1
    · have ho' : ((s.size : Int) % 2 == 1) = true := by simp; omega
      have hL0 : L = (if leaf then 3 else 1) :: s.data.toList := by rw [← hL]; unfold formHalves; rw [len_data, if_pos ho]
      have hLe : L.length % 2 = 0 := by rw [hL0]; simp only [List.length_cons, len_data]; omega
      have hLb : L.length ≤ 1073741826 := by rw [hL0]; simp only [List.length_cons, len_data]; omega
      have hL2 : 0 < L.length := by rw [hL0]; simp
      have HL0 := Lib.hid hL0
      have HLe := Lib.hid hLe
      clear hL0 hLe hL ho
      cases leaf
      all_goals
        go_enter Tryd.func122, Tryd.ntmps122
        go_wp2_with fail
        refine (isPathRef_any s _ (by omega)).mono ?_
        rintro e w1 ⟨rfl, hb1⟩
        have hz1 := hb1.size
        have l1 : OwnB 5 w.heap.size (w1.alloc (.cells #[.int .u8 1] 5)) (.slice (some ⟨w1.heap.size, 0, none⟩) 1 1) [1] := OwnB.lit w1 [1] hz1 (by decide)
        have l3 : OwnB 5 w.heap.size (w1.alloc (.cells #[.int .u8 3] 5)) (.slice (some ⟨w1.heap.size, 0, none⟩) 1 1) [3] := OwnB.lit w1 [3] hz1 (by decide)
        go_wp2_with (at_builtin; first | refine wpList_appendS rfl _ _ 24 9 rfl w.heap.size 5 Tryd.underlying24 Tryd.underlying9 infoByte' _ [1] rfl l1 s rfl ?c1 ?c2 ?_ | refine wpList_appendS rfl _ _ 24 9 rfl w.heap.size 5 Tryd.underlying24 Tryd.underlying9 infoByte' _ [3] rfl l3 s rfl ?c1 ?c2 ?_)
        case c1 => simp; omega
        case c2 => simp; omega
        clear l1 l3
        intro v w4 hown hg4
        have hB4 := ((hb1.alloc hz1 _).grown hg4 (by simp; omega) (fun k hk => by cases hk; exact hz1))
        clear hg4
        have hown' : OwnB 5 w.heap.size w4 v L := by rw [HL0.out]; exact hown
        have hLe := HLe.out
        clear HL0 HLe hown
        obtain ⟨g, c, rfl, hgb, hgs, hcell, _⟩ := hown'.opened hL2
        clear hown'
        have Hcell := Lib.hid hcell
        clear hcell
        go_wp2
        go_loopw [8, 9] (fun v i wr => ∃ m : Nat, m ≤ L.length ∧ m % 2 = 0 ∧ i = .int .i64 m ∧ OwnB 5 w4.heap.size wr v (pairUp (L.take m)) ∧ Below w4.heap.size w4 wr) (fun _ i _ => L.length - (intOf i).toNat)
        case atStart => exact ⟨0, by omega, by omega, rfl, by simpa [pairUp] using OwnB.nil _ _ _, Below.refl _ _⟩
        case round =>
          obtain ⟨m, hm1, hm2, rfl, hown, hB⟩ := hrel
          have g1 : (0 : Int) ≤ m := by omega
          by_cases hlt : m < L.length
          · have hlt1 : m + 1 < L.length := by omega
            have hc0 : wr.cell? ⟨g, m, none⟩ = some (.int .u8 L[m].toNat) := (hB.cell (p := ⟨g, m, none⟩) hgs).trans (Hcell.out m hlt)
            have hc1 : wr.cell? ⟨g, m + 1, none⟩ = some (.int .u8 L[m + 1].toNat) := (hB.cell (p := ⟨g, m + 1, none⟩) hgs).trans (Hcell.out (m + 1) hlt1)
            have hz := hB.size
            have Hle : Hid ((pairUp (L.take m)).length ≤ m) := pairUp_len L m
            have hcn := cells_new wr.drew (Lib.byteCells [joinN L[m] L[m + 1]]) 5
            have Hcn := Lib.hid hcn
            have hrow := fun k hk => (hown.lt k hk).1
            clear hcn
            have hown2 := (OwnB.drew hown).alloc (.cells (Lib.byteCells [joinN L[m] L[m + 1]]).toArray 5)
            have Hown2 := Lib.hid hown2
            clear hown2
            have e1 := u8_join L[m] L[m + 1]
            have hwr : IntKind.i64.wrap ((m : Int) + 1) = (m : Int) + 1 := by rw [IntKind.wrap_i64]; omega
            have hnn : ((m : Int) + 1).toNat = m + 1 := by omega
            have g2 : (0 : Int) ≤ (m : Int) + 1 := by omega
            have g3 : (m : Int) + 1 < (L.length : Int) := by omega
            have g4 : (m : Int) < (L.length : Int) := by omega
            go_wp2
            go_region_law (refine step_appendB rfl (.tmp 36) (.tmp 48) 24 rfl w4.heap.size 5 Tryd.underlying24 infoByte' _ _ (by simp [Act.eval]) Hown2.out ⟨wr.heap.size, 0, none⟩ 1 1 [joinN L[m] L[m + 1]] (by simp [Act.eval]) rfl Hcn.out (by have := Hle.out; omega) (by simp; omega) ?_; intro v' w5 hown5 hg5)
            all_goals
              clear Hcn Hown2 hown e1 hwr hnn
              go_wp2
              go_roundw
              case rel =>
                refine ⟨m + 2, by omega, by omega, by go_num, ?_, (hB.alloc hz _).drew.grown hg5 (by simp; omega) hrow⟩
                rw [pairUp_step hm2 hlt1]
                exact hown5
              case measure => simp [intOf]; omega
          · have hc := hown.str (P := Tryd.prog) Tryd.underlying24 Tryd.underlying5 Tryd.underlying9
            rw [pairUp_all hlt] at hc
            go_wp2
            go_ret2
            refine ⟨?_, hB4.trans (hB.mono hB4.size)⟩
            rw [Hf.out]
            rfl
    · have ho' : ((s.size : Int) % 2 == 1) = false := by simp; omega
      have hL0 : L = (if leaf then 2 else 0) :: 0 :: s.data.toList := by rw [← hL]; unfold formHalves; rw [len_data, if_neg ho]
      have hLe : L.length % 2 = 0 := by rw [hL0]; simp only [List.length_cons, len_data]; omega
      have hLb : L.length ≤ 1073741826 := by rw [hL0]; simp only [List.length_cons, len_data]; omega
      have hL2 : 0 < L.length := by rw [hL0]; simp
      have HL0 := Lib.hid hL0
      have HLe := Lib.hid hLe
      clear hL0 hLe hL ho
      cases leaf
      all_goals
        go_enter Tryd.func122, Tryd.ntmps122
        go_wp2_with fail
        refine (isPathRef_any s _ (by omega)).mono ?_
        rintro e w1 ⟨rfl, hb1⟩
        have hz1 := hb1.size
        have l1 : OwnB 5 w.heap.size (w1.alloc (.cells #[.int .u8 0] 5)) (.slice (some ⟨w1.heap.size, 0, none⟩) 1 1) [0] := OwnB.lit w1 [0] hz1 (by decide)
        have l3 : OwnB 5 w.heap.size (w1.alloc (.cells #[.int .u8 2] 5)) (.slice (some ⟨w1.heap.size, 0, none⟩) 1 1) [2] := OwnB.lit w1 [2] hz1 (by decide)
        go_wp2_with (at_builtin; first | refine wpList_appendB rfl _ _ 24 rfl w.heap.size 5 Tryd.underlying24 infoByte' _ [0] rfl (l1.alloc _) ⟨w1.heap.size + 1, 0, none⟩ 1 1 [0] rfl rfl ?c0 ?c1 ?c2 ?_ | refine wpList_appendB rfl _ _ 24 rfl w.heap.size 5 Tryd.underlying24 infoByte' _ [2] rfl (l3.alloc _) ⟨w1.heap.size + 1, 0, none⟩ 1 1 [0] rfl rfl ?c0 ?c1 ?c2 ?_)
        case c0 => exact cells_new_at (by simp) (Lib.byteCells [0]) 5
        case c1 => simp
        case c2 => simp; omega
        clear l1 l3
        intro v3 w3 hown3 hg3
        have hB3 := (((hb1.alloc hz1 _).alloc (by simp; omega) _).grown hg3 (by simp; omega) (fun k hk => by cases hk; exact hz1))
        clear hg3
        have hz3 := hB3.size
        go_wp2_with (at_builtin; refine wpList_appendS rfl _ _ 24 9 rfl w.heap.size 5 Tryd.underlying24 Tryd.underlying9 infoByte' _ _ rfl hown3 s rfl ?c4 ?c5 ?_)
        case c4 => simp; omega
        case c5 => omega
        intro v w4 hown hg4
        have hB4 := hB3.grown hg4 hz3 (fun k hk => (hown3.lt k hk).1)
        clear hg4 hown3 hB3 hz3
        have hown' : OwnB 5 w.heap.size w4 v L := by rw [HL0.out]; exact hown
        have hLe := HLe.out
        clear HL0 HLe hown
        obtain ⟨g, c, rfl, hgb, hgs, hcell, _⟩ := hown'.opened hL2
        clear hown'
        have Hcell := Lib.hid hcell
        clear hcell
        go_wp2
        go_loopw [8, 9] (fun v i wr => ∃ m : Nat, m ≤ L.length ∧ m % 2 = 0 ∧ i = .int .i64 m ∧ OwnB 5 w4.heap.size wr v (pairUp (L.take m)) ∧ Below w4.heap.size w4 wr) (fun _ i _ => L.length - (intOf i).toNat)
        case atStart => exact ⟨0, by omega, by omega, rfl, by simpa [pairUp] using OwnB.nil _ _ _, Below.refl _ _⟩
        case round =>
          obtain ⟨m, hm1, hm2, rfl, hown, hB⟩ := hrel
          have g1 : (0 : Int) ≤ m := by omega
          by_cases hlt : m < L.length
          · have hlt1 : m + 1 < L.length := by omega
            have hc0 : wr.cell? ⟨g, m, none⟩ = some (.int .u8 L[m].toNat) := (hB.cell (p := ⟨g, m, none⟩) hgs).trans (Hcell.out m hlt)
            have hc1 : wr.cell? ⟨g, m + 1, none⟩ = some (.int .u8 L[m + 1].toNat) := (hB.cell (p := ⟨g, m + 1, none⟩) hgs).trans (Hcell.out (m + 1) hlt1)
            have hz := hB.size
            have Hle : Hid ((pairUp (L.take m)).length ≤ m) := pairUp_len L m
            have hcn := cells_new wr.drew (Lib.byteCells [joinN L[m] L[m + 1]]) 5
            have Hcn := Lib.hid hcn
            have hrow := fun k hk => (hown.lt k hk).1
            clear hcn
            have hown2 := (OwnB.drew hown).alloc (.cells (Lib.byteCells [joinN L[m] L[m + 1]]).toArray 5)
            have Hown2 := Lib.hid hown2
            clear hown2
            have e1 := u8_join L[m] L[m + 1]
            have hwr : IntKind.i64.wrap ((m : Int) + 1) = (m : Int) + 1 := by rw [IntKind.wrap_i64]; omega
            have hnn : ((m : Int) + 1).toNat = m + 1 := by omega
            have g2 : (0 : Int) ≤ (m : Int) + 1 := by omega
            have g3 : (m : Int) + 1 < (L.length : Int) := by omega
            have g4 : (m : Int) < (L.length : Int) := by omega
            go_wp2
            go_region_law (refine step_appendB rfl (.tmp 36) (.tmp 48) 24 rfl w4.heap.size 5 Tryd.underlying24 infoByte' _ _ (by simp [Act.eval]) Hown2.out ⟨wr.heap.size, 0, none⟩ 1 1 [joinN L[m] L[m + 1]] (by simp [Act.eval]) rfl Hcn.out (by have := Hle.out; omega) (by simp; omega) ?_; intro v' w5 hown5 hg5)
            all_goals
              clear Hcn Hown2 hown e1 hwr hnn
              go_wp2
              go_roundw
              case rel =>
                refine ⟨m + 2, by omega, by omega, by go_num, ?_, (hB.alloc hz _).drew.grown hg5 (by simp; omega) hrow⟩
                rw [pairUp_step hm2 hlt1]
                exact hown5
              case measure => simp [intOf]; omega
          · have hc := hown.str (P := Tryd.prog) Tryd.underlying24 Tryd.underlying5 Tryd.underlying9
            rw [pairUp_all hlt] at hc
            go_wp2
            go_ret2
            refine ⟨?_, hB4.trans (hB.mono hB4.size)⟩
            rw [Hf.out]
            rfl
  · have Hf : Hid (formV s.data.toList leaf = .tuple #[.string ⟨#[]⟩, .int .i64 2]) := formV_of (by unfold form; rw [if_neg hp])
    have hp' : isPath s.data.toList = false := by simpa using hp
    clear hp
    go_enter Tryd.func122, Tryd.ntmps122
    go_wp2_with (go_at_call 147; refine (isPathRef_any s _ (by omega)).mono ?_; rintro e w1 ⟨rfl, hb1⟩)
    go_ret2
    exact ⟨by rw [Hf.out]; rfl, hb1⟩
end Go.Proofs.YthicdhnjincflaaDoor
