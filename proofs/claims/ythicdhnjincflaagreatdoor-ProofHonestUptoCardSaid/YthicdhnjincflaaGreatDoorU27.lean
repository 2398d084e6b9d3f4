/- What the walks take: NibsD. -/
import Derived.Test.YthicdhnjincflaaGreatDoorU0
import Derived.Test.YthicdhnjincflaaGreatDoorU21
import Derived.Test.YthicdhnjincflaaGreatDoorShelf
import Derived.Shelf.Strings.SlTrimAscii
namespace Go.Proofs.YthicdhnjincflaaGreatDoor
open Go.RowKit Go.Shelf
theorem trim16 (s : ByteArray) (w : World) (hs : s.size ≤ 1073741824) :
    Calls Tryz.prog 91 #[.string s, .string ⟨#[0, 1, 2, 3, 4, 5, 6, 7, 8, 9, 10, 11, 12, 13, 14, 15]⟩] w fun e w' => e = .returned (.string ⟨(Lib.trimS s.data.toList nibSet).toArray⟩) ∧ Below w.heap.size w w' :=
  Any.strings_Trim_laid Tryz.lays160 (by kernel_rfl) s ⟨#[0, 1, 2, 3, 4, 5, 6, 7, 8, 9, 10, 11, 12, 13, 14, 15]⟩ w (by omega) (by decide) (ascii_of_all (by decide))
theorem pairUp_zeros {L : List UInt8} {m N : Nat} {a b : UInt8} (hm : m % 2 = 0) (h0 : L[m]? = some a) (h1 : L[m + 1]? = some b) (hN : L.length = 2 * N) :
    (pairUp (L.take m) ++ List.replicate (N - m / 2) 0).set (m / 2) (joinN a b) = pairUp (L.take (m + 2)) ++ List.replicate (N - (m + 2) / 2) 0 := by
  obtain ⟨_, rfl⟩ := List.getElem?_eq_some_iff.1 h0
  obtain ⟨h, rfl⟩ := List.getElem?_eq_some_iff.1 h1
  have e1 : N - m / 2 = (N - (m + 2) / 2) + 1 := by omega
  rw [e1, set_zeros _ _ _ (by rw [pairUp_length, List.length_take]; omega), pairUp_step hm h]
set_option maxRecDepth 100000 in
set_option maxHeartbeats 1600000 in
theorem form_odd (s : ByteArray) (leaf : Bool) (w : World) (hs : s.size ≤ 1073741824) (hp : isPath s.data.toList = true) (ho : s.size % 2 = 1) :
    Calls Tryz.prog 55 #[.string s, .bool leaf] w fun e w' => e = .returned (formV s.data.toList leaf) ∧ Below w.heap.size w w' := by
  have Hf : Hid (formV s.data.toList leaf = .tuple #[.string ⟨(pairUp (formHalves s.data.toList leaf)).toArray⟩, .int .i64 0]) := formV_of (by unfold form; rw [if_pos hp])
  have htr := fun wx => trim16 s wx hs
  rw [trim_path.2 hp] at htr
  have Htr := Lib.hid htr
  clear htr
  obtain ⟨L, hL⟩ : ∃ L, formHalves s.data.toList leaf = L := ⟨_, rfl⟩
  rw [hL] at Hf
  have hL0 : L = (if leaf then 3 else 1) :: s.data.toList := by rw [← hL]; unfold formHalves; rw [len_data, if_pos ho]
  have hLl : L.length = s.size + 1 := by rw [hL0]; simp only [List.length_cons, len_data]
  have hLN : L.length = 2 * (s.size / 2 + 1) := by omega
  obtain ⟨N, hN⟩ : ∃ N, s.size / 2 + 1 = N := ⟨_, rfl⟩
  rw [hN] at hLN
  have hNi : (s.size : Int) / 2 + 1 = N := by omega
  have hmod : (s.size : Int) % 2 = 1 := by omega
  have hget : ∀ i (hi : i < s.size), L[i + 1]? = some s[i] := by
    intro i hi
    rw [hL0]; simpa using byte_at s i hi
  have hpos : 0 < s.size := by omega
  have h00 : L[0]? = some (if leaf then 3 else 1) := by rw [hL0]; rfl
  have h01 : L[1]? = some s[0] := hget 0 hpos
  have HN := Lib.hid hN
  have HLl := Lib.hid hLl
  have HLN := Lib.hid hLN
  have Hget := Lib.hid hget
  have H00 := Lib.hid h00
  have H01 := Lib.hid h01
  have Ho := Lib.hid ho
  clear hN hL0 hLl hLN hget h00 h01 hL ho
  have hNb : N ≤ 1073741826 := by have := HN.out; omega
  have hNp : 0 < N := by have := HN.out; omega
  cases leaf
  all_goals
    have h00 := H00.out
    simp only [Bool.false_eq_true, if_true, if_false] at h00
    have hz0 := pairUp_zeros (m := 0) (N := N) (by omega) h00 H01.out HLN.out
    have Hz0 := Lib.hid hz0
    clear h00 hz0 H00
    go_enter Tryz.func55, Tryz.ntmps55
    go_wp2_with fail
    refine (Htr.out _).mono ?_
    rintro e w1 ⟨rfl, hb1⟩
    have hz1 := hb1.size
    go_wp2_with (at_make; refine wpList_makeB rfl _ _ 60 rfl w.heap.size 5 Tryz.underlying60 infoByte' N _ _ rfl rfl ?c1 ?c2 ?c3 ?c4 ?_)
    case c1 => rfl
    case c2 => rfl
    case c3 => omega
    case c4 => omega
    intro w2 hown hg2
    have hB2 := hb1.grown hg2 hz1 (fun k hk => by cases hk)
    obtain ⟨g, hg⟩ : ∃ g, w1.heap.size = g := ⟨_, rfl⟩
    rw [hg] at hown hz1 ⊢
    obtain ⟨_, hgs, hcell, hfro⟩ := hown.cells (by simpa using hNp)
    have hc0 : w2.cell? ⟨g, 0, none⟩ = some (.int .u8 0) := by rw [hcell 0 (by simpa using hNp)]; simp
    have hf0 := hfro 0
    clear hg hg2 hcell hfro
    have e16 : bits .or .u8 16 s[0].toNat = ((joinN 1 s[0]).toNat : Int) := bits_u8_or 16 s[0]
    have e48 : bits .or .u8 48 s[0].toNat = ((joinN 3 s[0]).toNat : Int) := bits_u8_or 48 s[0]
  · go_wp2_with fail
    have hown3 : OwnB 5 w.heap.size (w2.setCell ⟨g, 0, none⟩ (.int .u8 16)) (.slice (some ⟨g, 0, none⟩) N N) ((List.replicate N 0).set 0 16) := (hown.stored 0 16).1
    have hB3 : Below w.heap.size w (w2.setCell ⟨g, 0, none⟩ (.int .u8 16)) := hB2.setCell (p := ⟨g, 0, none⟩) hz1 _
    obtain ⟨w3, hw3⟩ : ∃ w3, w2.setCell ⟨g, 0, none⟩ (.int .u8 16) = w3 := ⟨_, rfl⟩
    rw [hw3] at hown3 hB3 ⊢
    obtain ⟨_, _, hcell, hfro⟩ := hown3.cells (by simpa using hNp)
    have hc3 : w3.cell? ⟨g, 0, none⟩ = some (.int .u8 16) := by rw [hcell 0 (by simpa using hNp)]; simp
    have hf3 := hfro 0
    clear hown hB2 hc0 hf0 hcell hfro hw3 hgs
    go_still_tail 7, (by kernel_rfl)
    change wpList _ _ _ _ _ w3.drew
    have hown4 := OwnB.drew hown3
    have hB4 := hB3.drew
    have hc4 : w3.drew.cell? ⟨g, 0, none⟩ = some (.int .u8 16) := hc3
    have hf4 : w3.drew.frozen? ⟨g, 0, none⟩ = false := hf3
    obtain ⟨w4, hw4⟩ : ∃ w4, w3.drew = w4 := ⟨_, rfl⟩
    rw [hw4] at hown4 hB4 hc4 hf4 ⊢
    clear hown3 hB3 hw4 hc3 hf3
    go_wp2
    have hown3 := (hown4.stored 0 (joinN 1 s[0])).1
    rw [List.set_set] at hown3
    have hz := Hz0.out
    simp only [List.take_zero, pairUp, List.nil_append, Nat.zero_div, Nat.sub_zero, Nat.zero_add] at hz
    rw [hz] at hown3
    clear hz
    have hB3 := hB4.setCell (p := ⟨g, 0, none⟩) hz1 (.int .u8 (joinN 1 s[0]).toNat)
    clear hown4 hB4 hc4 hf4
    clear Hz0 H01
    go_loopw [9] (fun i wr => ∃ k : Nat, k ≤ s.size ∧ k % 2 = 1 ∧ i = .int .i64 k ∧ OwnB 5 w.heap.size wr (.slice (some ⟨g, 0, none⟩) N N) (pairUp (L.take (k + 1)) ++ List.replicate (N - (k + 1) / 2) 0) ∧ Below w.heap.size w wr) (fun i _ => s.size - (intOf i).toNat)
    case atStart => exact ⟨1, by omega, by omega, rfl, hown3, hB3⟩
    case round =>
      obtain ⟨k, hk1, hk2, rfl, hown, hB⟩ := hrel
      clear hown3 hB3
      have g1 : (0 : Int) ≤ k := by omega
      have hll : (pairUp (L.take (k + 1)) ++ List.replicate (N - (k + 1) / 2) 0).length = N := by
        have h1 := HLN.out
        have h2 := HLl.out
        rw [List.length_append, pairUp_length, List.length_take, List.length_replicate]; omega
      by_cases hlt : k < s.size
      · have ho := Ho.out
        have hlt1 : k + 1 < s.size := by omega
        have hki : 1 + k / 2 < N := by have := HN.out; omega
        have e1 := u8_join s[k] s[k + 1]
        have hset := pairUp_zeros (m := k + 1) (N := N) (by omega) (Hget.out k hlt) (by have := Hget.out (k + 1) hlt1; rwa [Nat.add_right_comm] at this) HLN.out
        rw [show (k + 1) / 2 = 1 + k / 2 from by omega] at hset hown
        have Hset := Lib.hid hset
        have Hll := Lib.hid hll
        clear hset ho hll
        have g2 : (k : Int) + 1 < (s.size : Int) := by omega
        have g3 : (1 : Int) + (k : Int) / 2 < (N : Int) := by omega
        have g4 : (0 : Int) ≤ 1 + (k : Int) / 2 := by omega
        have g5 : ((1 : Int) + (k : Int) / 2).toNat = 1 + k / 2 := by omega
        have g6 : ((k : Int) + 1).toNat = k + 1 := by omega
        have g7 : (0 : Int) ≤ (k : Int) + 1 := by omega
        have v1 : IntKind.i64.wrap ((k : Int) / 2) = (k : Int) / 2 := by rw [IntKind.wrap_i64]; omega
        have v2 : IntKind.i64.wrap ((1 : Int) + (k : Int) / 2) = 1 + (k : Int) / 2 := by rw [IntKind.wrap_i64]; omega
        have v3 : IntKind.i64.wrap ((k : Int) + 1) = (k : Int) + 1 := by rw [IntKind.wrap_i64]; omega
        go_wp2
        go_still_tail 14, (by kernel_rfl)
        change wpList _ _ _ _ _ wr.drew
        have hown5 := OwnB.drew hown
        have hB5 := hB.drew
        obtain ⟨w5, hw5⟩ : ∃ w5, wr.drew = w5 := ⟨_, rfl⟩
        rw [hw5] at hown5 hB5 ⊢
        clear hown hB hw5
        have hl5 := Hll.out
        rw [show (k + 1) / 2 = 1 + k / 2 from by omega] at hl5
        obtain ⟨hgb, _, hcell, hfro⟩ := hown5.cells (by rw [hl5]; exact hNp)
        obtain ⟨y, hc5⟩ : ∃ y : Int, w5.cell? ⟨g, 1 + k / 2, none⟩ = some (.int .u8 y) := ⟨_, hcell (1 + k / 2) (by rw [hl5]; exact hki)⟩
        have hf5 := hfro (1 + k / 2)
        have hst := (hown5.stored (1 + k / 2) (joinN s[k] s[k + 1])).1
        rw [Hset.out] at hst
        have Hst := Lib.hid hst
        clear hown5 hst hcell hfro hl5
        go_wp2
        go_roundw
        case rel =>
          refine ⟨k + 2, by omega, by omega, by go_num, ?_, hB5.setCell (p := ⟨g, 1 + k / 2, none⟩) hgb _⟩
          have := Hst.out
          rw [show k + 1 + 2 = k + 2 + 1 from by omega] at this
          exact this
        case measure => simp [intOf]; omega
      · have hfin : pairUp (L.take (k + 1)) ++ List.replicate (N - (k + 1) / 2) 0 = pairUp L := by
          have h1 := HLN.out
          have h2 := HLl.out
          have ho := Ho.out
          rw [show N - (k + 1) / 2 = 0 from by omega, List.replicate_zero, List.append_nil, pairUp_all (by omega)]
        rw [hfin] at hown
        have hc := hown.str (P := Tryz.prog) Tryz.underlying60 Tryz.underlying5 Tryz.underlying9
        clear hll hfin
        go_wp2
        go_ret2
        exact ⟨by rw [Hf.out]; rfl, hB⟩
  · go_wp2_with fail
    have hown3 : OwnB 5 w.heap.size (w2.setCell ⟨g, 0, none⟩ (.int .u8 48)) (.slice (some ⟨g, 0, none⟩) N N) ((List.replicate N 0).set 0 48) := (hown.stored 0 48).1
    have hB3 : Below w.heap.size w (w2.setCell ⟨g, 0, none⟩ (.int .u8 48)) := hB2.setCell (p := ⟨g, 0, none⟩) hz1 _
    obtain ⟨w3, hw3⟩ : ∃ w3, w2.setCell ⟨g, 0, none⟩ (.int .u8 48) = w3 := ⟨_, rfl⟩
    rw [hw3] at hown3 hB3 ⊢
    obtain ⟨_, _, hcell, hfro⟩ := hown3.cells (by simpa using hNp)
    have hc3 : w3.cell? ⟨g, 0, none⟩ = some (.int .u8 48) := by rw [hcell 0 (by simpa using hNp)]; simp
    have hf3 := hfro 0
    clear hown hB2 hc0 hf0 hcell hfro hw3 hgs
    go_still_tail 7, (by kernel_rfl)
    change wpList _ _ _ _ _ w3.drew
    have hown4 := OwnB.drew hown3
    have hB4 := hB3.drew
    have hc4 : w3.drew.cell? ⟨g, 0, none⟩ = some (.int .u8 48) := hc3
    have hf4 : w3.drew.frozen? ⟨g, 0, none⟩ = false := hf3
    obtain ⟨w4, hw4⟩ : ∃ w4, w3.drew = w4 := ⟨_, rfl⟩
    rw [hw4] at hown4 hB4 hc4 hf4 ⊢
    clear hown3 hB3 hw4 hc3 hf3
    go_wp2
    have hown3 := (hown4.stored 0 (joinN 3 s[0])).1
    rw [List.set_set] at hown3
    have hz := Hz0.out
    simp only [List.take_zero, pairUp, List.nil_append, Nat.zero_div, Nat.sub_zero, Nat.zero_add] at hz
    rw [hz] at hown3
    clear hz
    have hB3 := hB4.setCell (p := ⟨g, 0, none⟩) hz1 (.int .u8 (joinN 3 s[0]).toNat)
    clear hown4 hB4 hc4 hf4
    clear Hz0 H01
    go_loopw [9] (fun i wr => ∃ k : Nat, k ≤ s.size ∧ k % 2 = 1 ∧ i = .int .i64 k ∧ OwnB 5 w.heap.size wr (.slice (some ⟨g, 0, none⟩) N N) (pairUp (L.take (k + 1)) ++ List.replicate (N - (k + 1) / 2) 0) ∧ Below w.heap.size w wr) (fun i _ => s.size - (intOf i).toNat)
    case atStart => exact ⟨1, by omega, by omega, rfl, hown3, hB3⟩
    case round =>
      obtain ⟨k, hk1, hk2, rfl, hown, hB⟩ := hrel
      clear hown3 hB3
      have g1 : (0 : Int) ≤ k := by omega
      have hll : (pairUp (L.take (k + 1)) ++ List.replicate (N - (k + 1) / 2) 0).length = N := by
        have h1 := HLN.out
        have h2 := HLl.out
        rw [List.length_append, pairUp_length, List.length_take, List.length_replicate]; omega
      by_cases hlt : k < s.size
      · have ho := Ho.out
        have hlt1 : k + 1 < s.size := by omega
        have hki : 1 + k / 2 < N := by have := HN.out; omega
        have e1 := u8_join s[k] s[k + 1]
        have hset := pairUp_zeros (m := k + 1) (N := N) (by omega) (Hget.out k hlt) (by have := Hget.out (k + 1) hlt1; rwa [Nat.add_right_comm] at this) HLN.out
        rw [show (k + 1) / 2 = 1 + k / 2 from by omega] at hset hown
        have Hset := Lib.hid hset
        have Hll := Lib.hid hll
        clear hset ho hll
        have g2 : (k : Int) + 1 < (s.size : Int) := by omega
        have g3 : (1 : Int) + (k : Int) / 2 < (N : Int) := by omega
        have g4 : (0 : Int) ≤ 1 + (k : Int) / 2 := by omega
        have g5 : ((1 : Int) + (k : Int) / 2).toNat = 1 + k / 2 := by omega
        have g6 : ((k : Int) + 1).toNat = k + 1 := by omega
        have g7 : (0 : Int) ≤ (k : Int) + 1 := by omega
        have v1 : IntKind.i64.wrap ((k : Int) / 2) = (k : Int) / 2 := by rw [IntKind.wrap_i64]; omega
        have v2 : IntKind.i64.wrap ((1 : Int) + (k : Int) / 2) = 1 + (k : Int) / 2 := by rw [IntKind.wrap_i64]; omega
        have v3 : IntKind.i64.wrap ((k : Int) + 1) = (k : Int) + 1 := by rw [IntKind.wrap_i64]; omega
        go_wp2
        go_still_tail 14, (by kernel_rfl)
        change wpList _ _ _ _ _ wr.drew
        have hown5 := OwnB.drew hown
        have hB5 := hB.drew
        obtain ⟨w5, hw5⟩ : ∃ w5, wr.drew = w5 := ⟨_, rfl⟩
        rw [hw5] at hown5 hB5 ⊢
        clear hown hB hw5
        have hl5 := Hll.out
        rw [show (k + 1) / 2 = 1 + k / 2 from by omega] at hl5
        obtain ⟨hgb, _, hcell, hfro⟩ := hown5.cells (by rw [hl5]; exact hNp)
        obtain ⟨y, hc5⟩ : ∃ y : Int, w5.cell? ⟨g, 1 + k / 2, none⟩ = some (.int .u8 y) := ⟨_, hcell (1 + k / 2) (by rw [hl5]; exact hki)⟩
        have hf5 := hfro (1 + k / 2)
        have hst := (hown5.stored (1 + k / 2) (joinN s[k] s[k + 1])).1
        rw [Hset.out] at hst
        have Hst := Lib.hid hst
        clear hown5 hst hcell hfro hl5
        go_wp2
        go_roundw
        case rel =>
          refine ⟨k + 2, by omega, by omega, by go_num, ?_, hB5.setCell (p := ⟨g, 1 + k / 2, none⟩) hgb _⟩
          have := Hst.out
          rw [show k + 1 + 2 = k + 2 + 1 from by omega] at this
          exact this
        case measure => simp [intOf]; omega
      · have hfin : pairUp (L.take (k + 1)) ++ List.replicate (N - (k + 1) / 2) 0 = pairUp L := by
          have h1 := HLN.out
          have h2 := HLl.out
          have ho := Ho.out
          rw [show N - (k + 1) / 2 = 0 from by omega, List.replicate_zero, List.append_nil, pairUp_all (by omega)]
        rw [hfin] at hown
        have hc := hown.str (P := Tryz.prog) Tryz.underlying60 Tryz.underlying5 Tryz.underlying9
        clear hll hfin
        go_wp2
        go_ret2
        exact ⟨by rw [Hf.out]; rfl, hB⟩
set_option maxRecDepth 100000 in
set_option maxHeartbeats 1600000 in
theorem form_even (s : ByteArray) (leaf : Bool) (w : World) (hs : s.size ≤ 1073741824) (hp : isPath s.data.toList = true) (ho : s.size % 2 = 0) :
    Calls Tryz.prog 55 #[.string s, .bool leaf] w fun e w' => e = .returned (formV s.data.toList leaf) ∧ Below w.heap.size w w' := by
  have Hf : Hid (formV s.data.toList leaf = .tuple #[.string ⟨(pairUp (formHalves s.data.toList leaf)).toArray⟩, .int .i64 0]) := formV_of (by unfold form; rw [if_pos hp])
  have htr := fun wx => trim16 s wx hs
  rw [trim_path.2 hp] at htr
  have Htr := Lib.hid htr
  clear htr
  obtain ⟨L, hL⟩ : ∃ L, formHalves s.data.toList leaf = L := ⟨_, rfl⟩
  rw [hL] at Hf
  have hL0 : L = (if leaf then 2 else 0) :: 0 :: s.data.toList := by rw [← hL]; unfold formHalves; rw [len_data, if_neg (by omega)]
  have hLl : L.length = s.size + 2 := by rw [hL0]; simp only [List.length_cons, len_data]
  have hLN : L.length = 2 * (s.size / 2 + 1) := by omega
  obtain ⟨N, hN⟩ : ∃ N, s.size / 2 + 1 = N := ⟨_, rfl⟩
  rw [hN] at hLN
  have hNi : (s.size : Int) / 2 + 1 = N := by omega
  have hmod : (s.size : Int) % 2 = 0 := by omega
  have hget : ∀ i (hi : i < s.size), L[i + 2]? = some s[i] := by
    intro i hi
    rw [hL0]; simpa using byte_at s i hi
  have h00 : L[0]? = some (if leaf then 2 else 0) := by rw [hL0]; rfl
  have h01 : L[1]? = some 0 := by rw [hL0]; rfl
  have HN := Lib.hid hN
  have HLl := Lib.hid hLl
  have HLN := Lib.hid hLN
  have Hget := Lib.hid hget
  have H00 := Lib.hid h00
  have H01 := Lib.hid h01
  have Ho := Lib.hid ho
  clear hN hL0 hLl hLN hget h00 h01 hL ho
  have hNb : N ≤ 1073741826 := by have := HN.out; omega
  have hNp : 0 < N := by have := HN.out; omega
  cases leaf
  all_goals
    have h00 := H00.out
    simp only [Bool.false_eq_true, if_true, if_false] at h00
    have hz0 := pairUp_zeros (m := 0) (N := N) (by omega) h00 H01.out HLN.out
    have Hz0 := Lib.hid hz0
    clear h00 hz0 H00
    go_enter Tryz.func55, Tryz.ntmps55
    go_wp2_with fail
    refine (Htr.out _).mono ?_
    rintro e w1 ⟨rfl, hb1⟩
    have hz1 := hb1.size
    go_wp2_with (at_make; refine wpList_makeB rfl _ _ 60 rfl w.heap.size 5 Tryz.underlying60 infoByte' N _ _ rfl rfl ?c1 ?c2 ?c3 ?c4 ?_)
    case c1 => rfl
    case c2 => rfl
    case c3 => omega
    case c4 => omega
    intro w2 hown hg2
    have hB2 := hb1.grown hg2 hz1 (fun k hk => by cases hk)
    obtain ⟨g, hg⟩ : ∃ g, w1.heap.size = g := ⟨_, rfl⟩
    rw [hg] at hown hz1 ⊢
    obtain ⟨_, hgs, hcell, hfro⟩ := hown.cells (by simpa using hNp)
    have hc0 : w2.cell? ⟨g, 0, none⟩ = some (.int .u8 0) := by rw [hcell 0 (by simpa using hNp)]; simp
    have hf0 := hfro 0
    clear hg hg2 hcell hfro
  · go_wp2
    have hown3 : OwnB 5 w.heap.size (w2.setCell ⟨g, 0, none⟩ (.int .u8 0)) (.slice (some ⟨g, 0, none⟩) N N) ((List.replicate N 0).set 0 0) := (hown.stored 0 0).1
    have hz := Hz0.out
    simp only [List.take_zero, pairUp, List.nil_append, Nat.zero_div, Nat.sub_zero, Nat.zero_add] at hz
    have hj : joinN 0 0 = 0 := by decide
    rw [hj] at hz
    rw [hz] at hown3
    have hB3 : Below w.heap.size w (w2.setCell ⟨g, 0, none⟩ (.int .u8 0)) := hB2.setCell (p := ⟨g, 0, none⟩) hz1 _
    clear hz hj hown hB2 hc0 hf0 hgs
    clear Hz0 H01
    go_loopw [9] (fun i wr => ∃ k : Nat, k ≤ s.size ∧ k % 2 = 0 ∧ i = .int .i64 k ∧ OwnB 5 w.heap.size wr (.slice (some ⟨g, 0, none⟩) N N) (pairUp (L.take (k + 2)) ++ List.replicate (N - (k + 2) / 2) 0) ∧ Below w.heap.size w wr) (fun i _ => s.size - (intOf i).toNat)
    case atStart => exact ⟨0, by omega, by omega, rfl, hown3, hB3⟩
    case round =>
      obtain ⟨k, hk1, hk2, rfl, hown, hB⟩ := hrel
      clear hown3 hB3
      have g1 : (0 : Int) ≤ k := by omega
      have hll : (pairUp (L.take (k + 2)) ++ List.replicate (N - (k + 2) / 2) 0).length = N := by
        have h1 := HLN.out
        have h2 := HLl.out
        rw [List.length_append, pairUp_length, List.length_take, List.length_replicate]; omega
      by_cases hlt : k < s.size
      · have ho := Ho.out
        have hlt1 : k + 1 < s.size := by omega
        have hki : 1 + k / 2 < N := by have := HN.out; omega
        have e1 := u8_join s[k] s[k + 1]
        have hset := pairUp_zeros (m := k + 2) (N := N) (by omega) (Hget.out k hlt) (by have := Hget.out (k + 1) hlt1; rwa [Nat.add_right_comm] at this) HLN.out
        rw [show (k + 2) / 2 = 1 + k / 2 from by omega] at hset hown
        have Hset := Lib.hid hset
        have Hll := Lib.hid hll
        clear hset ho hll
        have g2 : (k : Int) + 1 < (s.size : Int) := by omega
        have g3 : (1 : Int) + (k : Int) / 2 < (N : Int) := by omega
        have g4 : (0 : Int) ≤ 1 + (k : Int) / 2 := by omega
        have g5 : ((1 : Int) + (k : Int) / 2).toNat = 1 + k / 2 := by omega
        have g6 : ((k : Int) + 1).toNat = k + 1 := by omega
        have g7 : (0 : Int) ≤ (k : Int) + 1 := by omega
        have v1 : IntKind.i64.wrap ((k : Int) / 2) = (k : Int) / 2 := by rw [IntKind.wrap_i64]; omega
        have v2 : IntKind.i64.wrap ((1 : Int) + (k : Int) / 2) = 1 + (k : Int) / 2 := by rw [IntKind.wrap_i64]; omega
        have v3 : IntKind.i64.wrap ((k : Int) + 1) = (k : Int) + 1 := by rw [IntKind.wrap_i64]; omega
        go_wp2
        go_still_tail 14, (by kernel_rfl)
        change wpList _ _ _ _ _ wr.drew
        have hown5 := OwnB.drew hown
        have hB5 := hB.drew
        obtain ⟨w5, hw5⟩ : ∃ w5, wr.drew = w5 := ⟨_, rfl⟩
        rw [hw5] at hown5 hB5 ⊢
        clear hown hB hw5
        have hl5 := Hll.out
        rw [show (k + 2) / 2 = 1 + k / 2 from by omega] at hl5
        obtain ⟨hgb, _, hcell, hfro⟩ := hown5.cells (by rw [hl5]; exact hNp)
        obtain ⟨y, hc5⟩ : ∃ y : Int, w5.cell? ⟨g, 1 + k / 2, none⟩ = some (.int .u8 y) := ⟨_, hcell (1 + k / 2) (by rw [hl5]; exact hki)⟩
        have hf5 := hfro (1 + k / 2)
        have hst := (hown5.stored (1 + k / 2) (joinN s[k] s[k + 1])).1
        rw [Hset.out] at hst
        have Hst := Lib.hid hst
        clear hown5 hst hcell hfro hl5
        go_wp2
        go_roundw
        case rel =>
          refine ⟨k + 2, by omega, by omega, by go_num, ?_, hB5.setCell (p := ⟨g, 1 + k / 2, none⟩) hgb _⟩
          have := Hst.out
          rw [show k + 2 + 2 = k + 2 + 2 from by omega] at this
          exact this
        case measure => simp [intOf]; omega
      · have hfin : pairUp (L.take (k + 2)) ++ List.replicate (N - (k + 2) / 2) 0 = pairUp L := by
          have h1 := HLN.out
          have h2 := HLl.out
          have ho := Ho.out
          rw [show N - (k + 2) / 2 = 0 from by omega, List.replicate_zero, List.append_nil, pairUp_all (by omega)]
        rw [hfin] at hown
        have hc := hown.str (P := Tryz.prog) Tryz.underlying60 Tryz.underlying5 Tryz.underlying9
        clear hll hfin
        go_wp2
        go_ret2
        exact ⟨by rw [Hf.out]; rfl, hB⟩
  · go_wp2
    have hown3 : OwnB 5 w.heap.size (w2.setCell ⟨g, 0, none⟩ (.int .u8 32)) (.slice (some ⟨g, 0, none⟩) N N) ((List.replicate N 0).set 0 32) := (hown.stored 0 32).1
    have hz := Hz0.out
    simp only [List.take_zero, pairUp, List.nil_append, Nat.zero_div, Nat.sub_zero, Nat.zero_add] at hz
    have hj : joinN 2 0 = 32 := by decide
    rw [hj] at hz
    rw [hz] at hown3
    have hB3 : Below w.heap.size w (w2.setCell ⟨g, 0, none⟩ (.int .u8 32)) := hB2.setCell (p := ⟨g, 0, none⟩) hz1 _
    clear hz hj hown hB2 hc0 hf0 hgs
    clear Hz0 H01
    go_loopw [9] (fun i wr => ∃ k : Nat, k ≤ s.size ∧ k % 2 = 0 ∧ i = .int .i64 k ∧ OwnB 5 w.heap.size wr (.slice (some ⟨g, 0, none⟩) N N) (pairUp (L.take (k + 2)) ++ List.replicate (N - (k + 2) / 2) 0) ∧ Below w.heap.size w wr) (fun i _ => s.size - (intOf i).toNat)
    case atStart => exact ⟨0, by omega, by omega, rfl, hown3, hB3⟩
    case round =>
      obtain ⟨k, hk1, hk2, rfl, hown, hB⟩ := hrel
      clear hown3 hB3
      have g1 : (0 : Int) ≤ k := by omega
      have hll : (pairUp (L.take (k + 2)) ++ List.replicate (N - (k + 2) / 2) 0).length = N := by
        have h1 := HLN.out
        have h2 := HLl.out
        rw [List.length_append, pairUp_length, List.length_take, List.length_replicate]; omega
      by_cases hlt : k < s.size
      · have ho := Ho.out
        have hlt1 : k + 1 < s.size := by omega
        have hki : 1 + k / 2 < N := by have := HN.out; omega
        have e1 := u8_join s[k] s[k + 1]
        have hset := pairUp_zeros (m := k + 2) (N := N) (by omega) (Hget.out k hlt) (by have := Hget.out (k + 1) hlt1; rwa [Nat.add_right_comm] at this) HLN.out
        rw [show (k + 2) / 2 = 1 + k / 2 from by omega] at hset hown
        have Hset := Lib.hid hset
        have Hll := Lib.hid hll
        clear hset ho hll
        have g2 : (k : Int) + 1 < (s.size : Int) := by omega
        have g3 : (1 : Int) + (k : Int) / 2 < (N : Int) := by omega
        have g4 : (0 : Int) ≤ 1 + (k : Int) / 2 := by omega
        have g5 : ((1 : Int) + (k : Int) / 2).toNat = 1 + k / 2 := by omega
        have g6 : ((k : Int) + 1).toNat = k + 1 := by omega
        have g7 : (0 : Int) ≤ (k : Int) + 1 := by omega
        have v1 : IntKind.i64.wrap ((k : Int) / 2) = (k : Int) / 2 := by rw [IntKind.wrap_i64]; omega
        have v2 : IntKind.i64.wrap ((1 : Int) + (k : Int) / 2) = 1 + (k : Int) / 2 := by rw [IntKind.wrap_i64]; omega
        have v3 : IntKind.i64.wrap ((k : Int) + 1) = (k : Int) + 1 := by rw [IntKind.wrap_i64]; omega
        go_wp2
        go_still_tail 14, (by kernel_rfl)
        change wpList _ _ _ _ _ wr.drew
        have hown5 := OwnB.drew hown
        have hB5 := hB.drew
        obtain ⟨w5, hw5⟩ : ∃ w5, wr.drew = w5 := ⟨_, rfl⟩
        rw [hw5] at hown5 hB5 ⊢
        clear hown hB hw5
        have hl5 := Hll.out
        rw [show (k + 2) / 2 = 1 + k / 2 from by omega] at hl5
        obtain ⟨hgb, _, hcell, hfro⟩ := hown5.cells (by rw [hl5]; exact hNp)
        obtain ⟨y, hc5⟩ : ∃ y : Int, w5.cell? ⟨g, 1 + k / 2, none⟩ = some (.int .u8 y) := ⟨_, hcell (1 + k / 2) (by rw [hl5]; exact hki)⟩
        have hf5 := hfro (1 + k / 2)
        have hst := (hown5.stored (1 + k / 2) (joinN s[k] s[k + 1])).1
        rw [Hset.out] at hst
        have Hst := Lib.hid hst
        clear hown5 hst hcell hfro hl5
        go_wp2
        go_roundw
        case rel =>
          refine ⟨k + 2, by omega, by omega, by go_num, ?_, hB5.setCell (p := ⟨g, 1 + k / 2, none⟩) hgb _⟩
          have := Hst.out
          rw [show k + 2 + 2 = k + 2 + 2 from by omega] at this
          exact this
        case measure => simp [intOf]; omega
      · have hfin : pairUp (L.take (k + 2)) ++ List.replicate (N - (k + 2) / 2) 0 = pairUp L := by
          have h1 := HLN.out
          have h2 := HLl.out
          have ho := Ho.out
          rw [show N - (k + 2) / 2 = 0 from by omega, List.replicate_zero, List.append_nil, pairUp_all (by omega)]
        rw [hfin] at hown
        have hc := hown.str (P := Tryz.prog) Tryz.underlying60 Tryz.underlying5 Tryz.underlying9
        clear hll hfin
        go_wp2
        go_ret2
        exact ⟨by rw [Hf.out]; rfl, hB⟩
set_option maxRecDepth 100000 in
set_option maxHeartbeats 800000 in
theorem form_bad (s : ByteArray) (leaf : Bool) (w : World) (hs : s.size ≤ 1073741824) (hp : isPath s.data.toList = false) :
    Calls Tryz.prog 55 #[.string s, .bool leaf] w fun e w' => e = .returned (formV s.data.toList leaf) ∧ Below w.heap.size w w' := by
  have Hf : Hid (formV s.data.toList leaf = .tuple #[.string ⟨#[]⟩, .int .i64 2]) := formV_of (by unfold form; rw [if_neg (by simp [hp])])
  obtain ⟨T, hT⟩ : ∃ T : ByteArray, (⟨(Lib.trimS s.data.toList nibSet).toArray⟩ : ByteArray) = T := ⟨_, rfl⟩
  have htr := fun wx => trim16 s wx hs
  rw [hT] at htr
  have hne : ¬ T.toList = [] := by
    intro h
    rw [← hT] at h
    have h' : Lib.trimS s.data.toList nibSet = [] := by simpa using h
    rw [trim_path, hp] at h'
    cases h'
  have hne' : (!T.toList.isEmpty) = true := by simp [hne]
  have Htr := Lib.hid htr
  clear htr hT hp
  go_enter Tryz.func55, Tryz.ntmps55
  go_wp2_with fail
  refine (Htr.out _).mono ?_
  rintro e w1 ⟨rfl, hb1⟩
  go_wp2
  go_ret2
  exact ⟨by rw [Hf.out]; rfl, hb1⟩
theorem form_any (s : ByteArray) (leaf : Bool) (w : World) (hs : s.size ≤ 1073741824) :
    Calls Tryz.prog 55 #[.string s, .bool leaf] w fun e w' => e = .returned (formV s.data.toList leaf) ∧ Below w.heap.size w w' := by
  cases hp : isPath s.data.toList with
  | false => exact form_bad s leaf w hs hp
  | true =>
    by_cases ho : s.size % 2 = 1
    · exact form_odd s leaf w hs hp ho
    · exact form_even s leaf w hs hp (by omega)
end Go.Proofs.YthicdhnjincflaaGreatDoor
