/- Contract of head.Holds. -/
import Derived.Test.YtpfmdhcmhcoddaaGreatDoorHedC
import Derived.Test.YtpfmdhcmhcoddaaGreatDoorHedD
namespace Go.Proofs.YtpfmdhcmhcoddaaGreatDoor
open Go.RowKit Go.Shelf Go.Lib

theorem rootB_size (d : Nat) (l : List ByteArray) (z : ByteArray) (hl : ∀ x ∈ l, x.size = 32) (hz : z.size = 32) : (rootB d l z).size = 32 := by
  induction d generalizing l z with
  | zero =>
    unfold rootB
    cases l with
    | nil => exact hz
    | cons x r => exact hl x (by simp)
  | succ d ih =>
    unfold rootB
    refine ih _ _ (fun x hx => ?_) (hash2_size _ _)
    unfold levelUp halfs at hx
    obtain ⟨i, _, rfl⟩ := List.mem_map.1 hx
    exact hash2_size _ _
theorem rootB2_size (l : List ByteArray) (z : ByteArray) : (rootB 2 l z).size = 32 := by
  show (rootB 1 (levelUp z l) (hash2 z z)).size = 32
  refine rootB_size 1 _ _ (fun x hx => ?_) (hash2_size _ _)
  unfold levelUp halfs at hx
  obtain ⟨i, _, rfl⟩ := List.mem_map.1 hx
  exact hash2_size _ _
/-- does a Light hold? -/
def holdsB (n m : Nat) (a b c d e : ByteArray) (k : Nat) (br : List ByteArray) : Bool :=
  rightB (hdrChunks n m a b c) 3 && (rightB (execChunks d e k) 2 && (decide (br.length = 2) && check2 (rootB 2 (execChunks d e k) noughtB) (br.getD 0 noughtB) (br.getD 1 noughtB) c))

set_option maxRecDepth 100000 in
set_option maxHeartbeats 3200000 in
theorem holds_bad1 (n m : Nat) (a b c d e : ByteArray) (k : Nat) (p : Option Addr) (l cp : Nat) (t1 t2 : ByteArray) (c2 : Int) (w : World) (hK : KTab w)
    (h1 : ∀ W, KTab W → Calls Tryz.prog 62 #[.agg #[.int .u64 n, .int .u64 m, .string a, .string b, .string c]] W fun x w' => x = .returned (.tuple #[.string t1, .int .i64 130]) ∧ Below W.heap.size W w')
    (h2 : ∀ W, KTab W → Calls Tryz.prog 119 #[.agg #[.string d, .string e, .int .u64 k]] W fun x w' => x = .returned (.tuple #[.string t2, .int .i64 c2]) ∧ Below W.heap.size W w') :
    Calls Tryz.prog 63 #[.agg #[.int .u64 n, .int .u64 m, .string a, .string b, .string c, .string d, .string e, .int .u64 k, .slice p l cp]] w fun x w' => x = .returned (.bool false) ∧ Below w.heap.size w w' := by
  have H1 := Lib.hid h1
  have H2 := Lib.hid h2
  have HK := Lib.hid hK
  clear h1 h2 hK
  go_enter Tryz.func63, Tryz.ntmps63
  go_wp2_with fail
  have hKa : KTab (w.alloc (.cells #[.int .u64 n, .int .u64 m, .string a, .string b, .string c, .string d, .string e, .int .u64 k, .slice p l cp] 40)) := HK.out.below ((Below.refl _ _).alloc (Nat.le_refl _) _)
  refine (H1.out _ hKa).mono ?_
  rintro x w1 ⟨rfl, hb1⟩
  have hc1 : ∀ j u, [Value.int .u64 n, .int .u64 m, .string a, .string b, .string c, .string d, .string e, .int .u64 k, .slice p l cp][j]? = some u → w1.cell? ⟨w.heap.size, j, none⟩ = some u := fun j u h => by
    refine (hb1.cell (p := ⟨w.heap.size, j, none⟩) (by simp)).trans ?_
    rw [World.cell?_alloc_mark]; simpa using h
  have hB1 : Below w.heap.size w w1 := ((Below.refl _ _).alloc (Nat.le_refl _) _).trans (hb1.mono (by simp))
  have hl1 : w.heap.size < w1.heap.size := World.block_lt_of_cell? w1 _ (hc1 0 _ rfl)
  have HK1 := Lib.hid (HK.out.below hB1)
  have q5 := hc1 5 _ rfl
  have q6 := hc1 6 _ rfl
  have q7 := hc1 7 _ rfl
  have HB1 := Lib.hid hB1
  have HC1 := Lib.hid hc1
  clear hb1 hc1 hB1 hKa
  go_wp2_with fail
  refine (H2.out _ HK1.out).mono ?_
  rintro x w2 ⟨rfl, hb2⟩
  have HB2 := Lib.hid (HB1.out.trans (hb2.mono HB1.out.size))
  have q4 : w2.cell? ⟨w.heap.size, 4, none⟩ = some (.string c) := (hb2.cell (p := ⟨w.heap.size, 4, none⟩) hl1).trans (HC1.out 4 _ rfl)
  have q8 : w2.cell? ⟨w.heap.size, 8, none⟩ = some (.slice p l cp) := (hb2.cell (p := ⟨w.heap.size, 8, none⟩) hl1).trans (HC1.out 8 _ rfl)
  clear hb2 q5 q6 q7
  go_wp2
  go_ret
  exact ⟨rfl, HB2.out⟩
set_option maxRecDepth 100000 in
set_option maxHeartbeats 3200000 in
theorem holds_bad2 (n m : Nat) (a b c d e : ByteArray) (k : Nat) (p : Option Addr) (l cp : Nat) (t1 t2 : ByteArray) (w : World) (hK : KTab w)
    (h1 : ∀ W, KTab W → Calls Tryz.prog 62 #[.agg #[.int .u64 n, .int .u64 m, .string a, .string b, .string c]] W fun x w' => x = .returned (.tuple #[.string t1, .int .i64 0]) ∧ Below W.heap.size W w')
    (h2 : ∀ W, KTab W → Calls Tryz.prog 119 #[.agg #[.string d, .string e, .int .u64 k]] W fun x w' => x = .returned (.tuple #[.string t2, .int .i64 130]) ∧ Below W.heap.size W w') :
    Calls Tryz.prog 63 #[.agg #[.int .u64 n, .int .u64 m, .string a, .string b, .string c, .string d, .string e, .int .u64 k, .slice p l cp]] w fun x w' => x = .returned (.bool false) ∧ Below w.heap.size w w' := by
  have H1 := Lib.hid h1
  have H2 := Lib.hid h2
  have HK := Lib.hid hK
  clear h1 h2 hK
  go_enter Tryz.func63, Tryz.ntmps63
  go_wp2_with fail
  have hKa : KTab (w.alloc (.cells #[.int .u64 n, .int .u64 m, .string a, .string b, .string c, .string d, .string e, .int .u64 k, .slice p l cp] 40)) := HK.out.below ((Below.refl _ _).alloc (Nat.le_refl _) _)
  refine (H1.out _ hKa).mono ?_
  rintro x w1 ⟨rfl, hb1⟩
  have hc1 : ∀ j u, [Value.int .u64 n, .int .u64 m, .string a, .string b, .string c, .string d, .string e, .int .u64 k, .slice p l cp][j]? = some u → w1.cell? ⟨w.heap.size, j, none⟩ = some u := fun j u h => by
    refine (hb1.cell (p := ⟨w.heap.size, j, none⟩) (by simp)).trans ?_
    rw [World.cell?_alloc_mark]; simpa using h
  have hB1 : Below w.heap.size w w1 := ((Below.refl _ _).alloc (Nat.le_refl _) _).trans (hb1.mono (by simp))
  have hl1 : w.heap.size < w1.heap.size := World.block_lt_of_cell? w1 _ (hc1 0 _ rfl)
  have HK1 := Lib.hid (HK.out.below hB1)
  have q5 := hc1 5 _ rfl
  have q6 := hc1 6 _ rfl
  have q7 := hc1 7 _ rfl
  have HB1 := Lib.hid hB1
  have HC1 := Lib.hid hc1
  clear hb1 hc1 hB1 hKa
  go_wp2_with fail
  refine (H2.out _ HK1.out).mono ?_
  rintro x w2 ⟨rfl, hb2⟩
  have HB2 := Lib.hid (HB1.out.trans (hb2.mono HB1.out.size))
  have q4 : w2.cell? ⟨w.heap.size, 4, none⟩ = some (.string c) := (hb2.cell (p := ⟨w.heap.size, 4, none⟩) hl1).trans (HC1.out 4 _ rfl)
  have q8 : w2.cell? ⟨w.heap.size, 8, none⟩ = some (.slice p l cp) := (hb2.cell (p := ⟨w.heap.size, 8, none⟩) hl1).trans (HC1.out 8 _ rfl)
  clear hb2 q5 q6 q7
  go_wp2
  go_ret
  exact ⟨rfl, HB2.out⟩
set_option maxRecDepth 100000 in
set_option maxHeartbeats 3200000 in
theorem holds_len (n m : Nat) (a b c d e : ByteArray) (k : Nat) (p : Option Addr) (l cp : Nat) (t1 t2 : ByteArray) (w : World) (hK : KTab w)
    (h1 : ∀ W, KTab W → Calls Tryz.prog 62 #[.agg #[.int .u64 n, .int .u64 m, .string a, .string b, .string c]] W fun x w' => x = .returned (.tuple #[.string t1, .int .i64 0]) ∧ Below W.heap.size W w')
    (h2 : ∀ W, KTab W → Calls Tryz.prog 119 #[.agg #[.string d, .string e, .int .u64 k]] W fun x w' => x = .returned (.tuple #[.string t2, .int .i64 0]) ∧ Below W.heap.size W w') (hlen : ((l : Int) == 2) = false) :
    Calls Tryz.prog 63 #[.agg #[.int .u64 n, .int .u64 m, .string a, .string b, .string c, .string d, .string e, .int .u64 k, .slice p l cp]] w fun x w' => x = .returned (.bool false) ∧ Below w.heap.size w w' := by
  have H1 := Lib.hid h1
  have H2 := Lib.hid h2
  have HK := Lib.hid hK
  clear h1 h2 hK
  go_enter Tryz.func63, Tryz.ntmps63
  go_wp2_with fail
  have hKa : KTab (w.alloc (.cells #[.int .u64 n, .int .u64 m, .string a, .string b, .string c, .string d, .string e, .int .u64 k, .slice p l cp] 40)) := HK.out.below ((Below.refl _ _).alloc (Nat.le_refl _) _)
  refine (H1.out _ hKa).mono ?_
  rintro x w1 ⟨rfl, hb1⟩
  have hc1 : ∀ j u, [Value.int .u64 n, .int .u64 m, .string a, .string b, .string c, .string d, .string e, .int .u64 k, .slice p l cp][j]? = some u → w1.cell? ⟨w.heap.size, j, none⟩ = some u := fun j u h => by
    refine (hb1.cell (p := ⟨w.heap.size, j, none⟩) (by simp)).trans ?_
    rw [World.cell?_alloc_mark]; simpa using h
  have hB1 : Below w.heap.size w w1 := ((Below.refl _ _).alloc (Nat.le_refl _) _).trans (hb1.mono (by simp))
  have hl1 : w.heap.size < w1.heap.size := World.block_lt_of_cell? w1 _ (hc1 0 _ rfl)
  have HK1 := Lib.hid (HK.out.below hB1)
  have q5 := hc1 5 _ rfl
  have q6 := hc1 6 _ rfl
  have q7 := hc1 7 _ rfl
  have HB1 := Lib.hid hB1
  have HC1 := Lib.hid hc1
  clear hb1 hc1 hB1 hKa
  go_wp2_with fail
  refine (H2.out _ HK1.out).mono ?_
  rintro x w2 ⟨rfl, hb2⟩
  have HB2 := Lib.hid (HB1.out.trans (hb2.mono HB1.out.size))
  have q4 : w2.cell? ⟨w.heap.size, 4, none⟩ = some (.string c) := (hb2.cell (p := ⟨w.heap.size, 4, none⟩) hl1).trans (HC1.out 4 _ rfl)
  have q8 : w2.cell? ⟨w.heap.size, 8, none⟩ = some (.slice p l cp) := (hb2.cell (p := ⟨w.heap.size, 8, none⟩) hl1).trans (HC1.out 8 _ rfl)
  clear hb2 q5 q6 q7
  go_wp2
  go_ret
  exact ⟨rfl, HB2.out⟩
set_option maxRecDepth 100000 in
set_option maxHeartbeats 3200000 in
theorem holds_two (n m : Nat) (a b c d e : ByteArray) (k : Nat) (p : Option Addr) (cp : Nat) (t1 t2 : ByteArray) (w : World) (hK : KTab w)
    (h1 : ∀ W, KTab W → Calls Tryz.prog 62 #[.agg #[.int .u64 n, .int .u64 m, .string a, .string b, .string c]] W fun x w' => x = .returned (.tuple #[.string t1, .int .i64 0]) ∧ Below W.heap.size W w')
    (h2 : ∀ W, KTab W → Calls Tryz.prog 119 #[.agg #[.string d, .string e, .int .u64 k]] W fun x w' => x = .returned (.tuple #[.string t2, .int .i64 0]) ∧ Below W.heap.size W w') (s0 s1 : ByteArray) (hv : Strs w (.slice p 2 cp) [s0, s1]) (hsz : t2.size = 32) :
    Calls Tryz.prog 63 #[.agg #[.int .u64 n, .int .u64 m, .string a, .string b, .string c, .string d, .string e, .int .u64 k, .slice p 2 cp]] w fun x w' => x = .returned (.bool (check2 t2 s0 s1 c)) ∧ Below w.heap.size w w' := by
  have H1 := Lib.hid h1
  have H2 := Lib.hid h2
  have HK := Lib.hid hK
  have HV := Lib.hid hv
  clear hv
  clear h1 h2 hK
  go_enter Tryz.func63, Tryz.ntmps63
  go_wp2_with fail
  have hKa : KTab (w.alloc (.cells #[.int .u64 n, .int .u64 m, .string a, .string b, .string c, .string d, .string e, .int .u64 k, .slice p 2 cp] 40)) := HK.out.below ((Below.refl _ _).alloc (Nat.le_refl _) _)
  refine (H1.out _ hKa).mono ?_
  rintro x w1 ⟨rfl, hb1⟩
  have hc1 : ∀ j u, [Value.int .u64 n, .int .u64 m, .string a, .string b, .string c, .string d, .string e, .int .u64 k, .slice p 2 cp][j]? = some u → w1.cell? ⟨w.heap.size, j, none⟩ = some u := fun j u h => by
    refine (hb1.cell (p := ⟨w.heap.size, j, none⟩) (by simp)).trans ?_
    rw [World.cell?_alloc_mark]; simpa using h
  have hB1 : Below w.heap.size w w1 := ((Below.refl _ _).alloc (Nat.le_refl _) _).trans (hb1.mono (by simp))
  have hl1 : w.heap.size < w1.heap.size := World.block_lt_of_cell? w1 _ (hc1 0 _ rfl)
  have HK1 := Lib.hid (HK.out.below hB1)
  have q5 := hc1 5 _ rfl
  have q6 := hc1 6 _ rfl
  have q7 := hc1 7 _ rfl
  have HB1 := Lib.hid hB1
  have HC1 := Lib.hid hc1
  clear hb1 hc1 hB1 hKa
  go_wp2_with fail
  refine (H2.out _ HK1.out).mono ?_
  rintro x w2 ⟨rfl, hb2⟩
  have HB2 := Lib.hid (HB1.out.trans (hb2.mono HB1.out.size))
  have q4 : w2.cell? ⟨w.heap.size, 4, none⟩ = some (.string c) := (hb2.cell (p := ⟨w.heap.size, 4, none⟩) hl1).trans (HC1.out 4 _ rfl)
  have q8 : w2.cell? ⟨w.heap.size, 8, none⟩ = some (.slice p 2 cp) := (hb2.cell (p := ⟨w.heap.size, 8, none⟩) hl1).trans (HC1.out 8 _ rfl)
  clear hb2 q5 q6 q7
  have H3 := Lib.hid (check2_any _ t2 s0 s1 c w2 (HV.out.below HB2.out) hsz (HK.out.below HB2.out))
  clear hsz
  go_wp2_with fail
  refine H3.out.mono ?_
  rintro x w3 ⟨rfl, hb3⟩
  go_wp2
  go_ret
  exact ⟨rfl, HB2.out.trans (hb3.mono HB2.out.size)⟩
theorem holds_any (n m : Nat) (a b c d e : ByteArray) (k : Nat) (v : Value) (br : List ByteArray) (w : World) (hn : n < 18446744073709551616) (hm : m < 18446744073709551616) (hk : k < 18446744073709551616)
    (ha : a.size ≤ 1048576) (hb : b.size ≤ 1048576) (hc : c.size ≤ 1048576) (hd : d.size ≤ 1048576) (he : e.size ≤ 1048576) (hv : Strs w v br) (hK : KTab w) :
    Calls Tryz.prog 63 #[.agg #[.int .u64 n, .int .u64 m, .string a, .string b, .string c, .string d, .string e, .int .u64 k, v]] w fun x w' => x = .returned (.bool (holdsB n m a b c d e k br)) ∧ Below w.heap.size w w' := by
  have h1 := fun W (h : KTab W) => headRoot_any n m a b c W hn hm ha hb hc h
  have h2 := fun W (h : KTab W) => execRoot_any d e k W hk hd he h
  have hsz := rootB2_size (execChunks d e k) noughtB
  have hv' := hv
  obtain ⟨p, cp, rfl, -⟩ := hv
  have hr1 : rootedV (hdrChunks n m a b c) 3 = if rightB (hdrChunks n m a b c) 3 then .tuple #[.string (rootB 3 (hdrChunks n m a b c) noughtB), .int .i64 0] else .tuple #[.string ⟨#[]⟩, .int .i64 130] := rfl
  have hr2 : rootedV (execChunks d e k) 2 = if rightB (execChunks d e k) 2 then .tuple #[.string (rootB 2 (execChunks d e k) noughtB), .int .i64 0] else .tuple #[.string ⟨#[]⟩, .int .i64 130] := rfl
  unfold holdsB
  cases g1 : rightB (hdrChunks n m a b c) 3 with
  | false =>
    rw [g1, if_neg (by simp)] at hr1
    rw [hr1] at h1
    obtain ⟨t2, c2, ht⟩ := rootedV_form (execChunks d e k) 2
    rw [ht] at h2
    exact holds_bad1 n m a b c d e k p _ cp _ t2 c2 w hK h1 h2
  | true =>
    rw [g1, if_pos rfl] at hr1
    rw [hr1] at h1
    cases g2 : rightB (execChunks d e k) 2 with
    | false =>
      rw [g2, if_neg (by simp)] at hr2
      rw [hr2] at h2
      exact holds_bad2 n m a b c d e k p _ cp _ _ w hK h1 h2
    | true =>
      rw [g2, if_pos rfl] at hr2
      rw [hr2] at h2
      by_cases hl : br.length = 2
      · match br, hl, hv' with
        | [s0, s1], hl, hv' => exact holds_two n m a b c d e k p cp _ _ w hK h1 h2 s0 s1 hv' hsz
      · rw [decide_eq_false hl]
        exact holds_len n m a b c d e k p _ cp _ _ w hK h1 h2 (by rw [beq_eq_false_iff_ne]; omega)
end Go.Proofs.YtpfmdhcmhcoddaaGreatDoor
