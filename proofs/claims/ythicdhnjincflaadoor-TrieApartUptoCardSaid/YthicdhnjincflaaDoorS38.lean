/- What the walks take: TrxO, TrxT, TrxF, TrxW, TrxP. -/
import Derived.Test.YthicdhnjincflaaDoorS13
import Derived.Test.YthicdhnjincflaaDoorS35
import Derived.Test.YthicdhnjincflaaDoorS37
namespace Go.Proofs.YthicdhnjincflaaDoor
open Go.RowKit Go.Shelf Go.Lib
attribute [local go_sem] Oper.semAt_some
theorem prove_len (ps : List PairD) (key : List UInt8) : (proveR ps key).1.length ≤ 1000 := by
  unfold proveR
  cases hr : rightP ps with
  | false => exact Nat.zero_le _
  | true =>
    rw [if_pos rfl]
    cases ps with
    | nil => exact Nat.zero_le _
    | cons q r =>
      obtain ⟨hv, hf⟩ := right_valid hr (by simp)
      have := (way_len (K := keccakL) keccakL_length 129 (q :: r) 0 (halves key) hv hf (by omega) (isPath_halves key) (Nat.zero_le _) (along_zero _ _)).1
      dsimp only
      omega
set_option maxRecDepth 100000 in
set_option maxHeartbeats 6400000 in
theorem order_law (v0 : Value) (l0 : List PairD) (s1 : ByteArray) (w : World) (hs0 : Pairs w v0 l0) (g0 : weightP l0 ≤ 1048576) (g1 : s1.size ≤ 1048576) (hK : KecT w) :
    Calls Tryd.prog 9 #[v0, .string s1] w fun e w' => e = .returned (.bool true) ∧ Below w.heap.size w w' := by
  obtain ⟨key, rfl, hkl⟩ := bytes_list s1
  have hl := weightP_len l0
  have HSH := Lib.hid (shown06_any w hK)
  have hbig := fewP_big (n := 40) g0
  obtain ⟨FP, hFP⟩ : ∃ A, fewP 40 l0 = A := ⟨_, rfl⟩
  rw [hFP] at hbig
  have hlF : FP.length ≤ 40 := by rw [← hFP]; exact fewP_len 40 _
  have HS0 : Hid (∀ W, Below w.heap.size w W → Calls Tryd.prog 27 #[v0] W fun e w' => ∃ p c, e = .returned (.slice p FP.length c) ∧ OwnP W.heap.size w' (.slice p FP.length c) FP ∧ Below W.heap.size W w') := Lib.hid fun W hb => by
    rw [← hFP]
    exact some06_any _ _ W (hs0.after hb) (by omega)
  have HKT := Lib.hid (fun W (hb : Below w.heap.size w W) => hK.belowP hb)
  have hbig2 : ∀ q ∈ FP.reverse, q.1.length ≤ 1099511627776 ∧ q.2.length ≤ 1099511627776 := fun q hq => hbig q (List.mem_reverse.1 hq)
  have hkl2 : key.length ≤ 1073741824 := by have : (⟨key.toArray⟩ : ByteArray).size = key.length := rfl; omega
  have hperm : FP.reverse.Perm FP := List.reverse_perm FP
  have hrr : rootR FP.reverse = rootR FP := by
    unfold rootR
    rw [right_perm hperm]
    cases hr : rightP FP with
    | false => rfl
    | true =>
      rw [if_pos rfl, if_pos rfl]
      by_cases hne : FP = []
      · rw [hne]; rfl
      · rw [root_cons (K := keccakL) hne, root_cons (K := keccakL) (fun e => hne (List.reverse_eq_nil_iff.1 e)), bytes_perm 129 hperm (right_even ((right_perm hperm).trans hr))]
  have hpp : proveR FP.reverse key = proveR FP key := by
    cases hr : rightP FP with
    | false => rw [prove_wrong hr, prove_wrong ((right_perm hperm).trans hr)]
    | true =>
      by_cases hne : FP = []
      · rw [hne]; rfl
      · rw [prove_right hr hne, prove_right ((right_perm hperm).trans hr) (fun e => hne (List.reverse_eq_nil_iff.1 e)), way_perm 129 (halves key) hperm (right_even ((right_perm hperm).trans hr))]
  have HTU : Hid (∀ v W, Pairs W v FP → Calls Tryd.prog 28 #[v] W fun e w' => ∃ p c, e = .returned (.slice p FP.length c) ∧ OwnP W.heap.size w' (.slice p FP.length c) FP.reverse ∧ Below W.heap.size W w') := Lib.hid fun v W hv => turned_any FP v W hv (by omega)
  obtain ⟨rt, er, hrt⟩ : ∃ x e, rootR FP = (x, e) := ⟨_, _, rfl⟩
  obtain ⟨wy, ew, hwy⟩ : ∃ x e, proveR FP key = (x, e) := ⟨_, _, rfl⟩
  rw [hrt] at hrr
  rw [hwy] at hpp
  have hwl : wy.length ≤ 1000 := by
    have h := prove_len FP key
    rw [hwy] at h
    exact h
  have HRT : Hid (∀ v W, Pairs W v FP → KecT W → Calls Tryd.prog 29 #[v] W fun e w' => e = .returned (.tuple #[.string ⟨rt.toArray⟩, .int .i64 er]) ∧ Below W.heap.size W w') := Lib.hid fun v W hv hk => by
    have h := trieRootTop_any FP v W hv (by omega) hbig hk
    rw [hrt] at h
    exact h
  have HRU : Hid (∀ v W, Pairs W v FP.reverse → KecT W → Calls Tryd.prog 29 #[v] W fun e w' => e = .returned (.tuple #[.string ⟨rt.toArray⟩, .int .i64 er]) ∧ Below W.heap.size W w') := Lib.hid fun v W hv hk => by
    have h := trieRootTop_any FP.reverse v W hv (by rw [List.length_reverse]; omega) hbig2 hk
    rw [hrr] at h
    exact h
  have HPT : Hid (∀ v W, Pairs W v FP → KecT W → Calls Tryd.prog 30 #[v, .string ⟨key.toArray⟩] W (TextsR W wy ew)) := Lib.hid fun v W hv hk => by
    have h := trieProve_any FP key v W hv (by omega) hbig hkl2 hk
    rw [hwy] at h
    exact h
  have HPU : Hid (∀ v W, Pairs W v FP.reverse → KecT W → Calls Tryd.prog 30 #[v, .string ⟨key.toArray⟩] W (TextsR W wy ew)) := Lib.hid fun v W hv hk => by
    have h := trieProve_any FP.reverse key v W hv (by rw [List.length_reverse]; omega) hbig2 hkl2 hk
    rw [hpp] at h
    exact h
  have HWL := Lib.hid hwl
  obtain ⟨fl, hfl⟩ : ∃ n, FP.length = n := ⟨_, rfl⟩
  rw [hfl] at HS0 HTU
  clear hs0 g0 g1 hK hl hbig hFP hlF hbig2 hkl hkl2 hperm hrr hpp hrt hwy hwl hfl
  go_enter Tryd.func9, Tryd.ntmps9
  go_wp2_with fail
  refine HSH.out.mono ?_
  rintro e w1 ⟨rfl, hb1⟩
  have HB1 := Lib.hid hb1
  clear hb1 HSH
  go_wp2_with fail
  refine (HS0.out _ HB1.out).mono ?_
  rintro e w2 ⟨p2, c2, rfl, ho2, hb2⟩
  have HB2 := Lib.hid (HB1.out.trans (hb2.mono HB1.out.size))
  have HP2 := Lib.hid ho2.pairs
  clear hb2 ho2 HB1 HS0
  go_wp2_with fail
  refine (HTU.out _ _ HP2.out).mono ?_
  rintro e w3 ⟨p3, c3, rfl, ho3, hb3⟩
  have HB3 := Lib.hid (HB2.out.trans (hb3.mono HB2.out.size))
  have HP3 := Lib.hid (HP2.out.after hb3)
  have HQ3 := Lib.hid ho3.pairs
  clear hb3 ho3 HB2 HP2 HTU
  go_wp2_with fail
  refine (HRT.out _ _ HP3.out (HKT.out _ HB3.out)).mono ?_
  rintro e w4 ⟨rfl, hb4⟩
  have HB4 := Lib.hid (HB3.out.trans (hb4.mono HB3.out.size))
  have HP4 := Lib.hid (HP3.out.after hb4)
  have HQ4 := Lib.hid (HQ3.out.after hb4)
  clear hb4 HB3 HP3 HQ3 HRT
  go_wp2_with fail
  refine (HRU.out _ _ HQ4.out (HKT.out _ HB4.out)).mono ?_
  rintro e w5 ⟨rfl, hb5⟩
  have HB5 := Lib.hid (HB4.out.trans (hb5.mono HB4.out.size))
  have HP5 := Lib.hid (HP4.out.after hb5)
  have HQ5 := Lib.hid (HQ4.out.after hb5)
  clear hb5 HB4 HP4 HQ4 HRU
  go_wp2_with fail
  refine (HPT.out _ _ HP5.out (HKT.out _ HB5.out)).mono ?_
  rintro e w6 ⟨p6, c6, rfl, ho6, hb6⟩
  have HB6 := Lib.hid (HB5.out.trans (hb6.mono HB5.out.size))
  have HQ6 := Lib.hid (HQ5.out.after hb6)
  have HO6 := Lib.hid ho6.strs
  clear hb6 ho6 HB5 HP5 HQ5 HPT
  go_wp2_with fail
  refine (HPU.out _ _ HQ6.out (HKT.out _ HB6.out)).mono ?_
  rintro e w7 ⟨p7, c7, rfl, ho7, hb7⟩
  have HB7 := Lib.hid (HB6.out.trans (hb7.mono HB6.out.size))
  have HO7 := Lib.hid (HO6.out.below hb7)
  have HN7 := Lib.hid ho7.strs
  have HSM := Lib.hid (same6_any _ _ _ w7 HO7.out HN7.out (by rw [List.length_map]; have := HWL.out; omega))
  clear hb7 ho7 HB6 HQ6 HO6 HPU
  go_wp2_with fail
  refine HSM.out.mono ?_
  rintro e w8 ⟨rfl, hb8⟩
  have HB8 := Lib.hid (HB7.out.trans (hb8.mono HB7.out.size))
  clear hb8
  go_wp2_with fail
  go_ret
  exact ⟨rfl, HB8.out⟩
end Go.Proofs.YthicdhnjincflaaDoor

namespace Go.Proofs.YthicdhnjincflaaDoor
open Go.RowKit Go.Shelf Go.Lib
attribute [local go_sem] Oper.semAt_some
set_option maxRecDepth 100000 in
set_option maxHeartbeats 6400000 in
theorem tops_law (v0 : Value) (l0 : List PairD) (s1 : ByteArray) (w : World) (hs0 : Pairs w v0 l0) (g0 : weightP l0 ≤ 1048576) (g1 : s1.size ≤ 1048576) (hK : KecT w) :
    Calls Tryd.prog 12 #[v0, .string s1] w fun e w' => e = .returned (.bool true) ∧ Below w.heap.size w w' := by
  obtain ⟨key, rfl, hkl⟩ := bytes_list s1
  have hl := weightP_len l0
  have HSH := Lib.hid (shown06_any w hK)
  have hbig := fewP_big (n := 40) g0
  obtain ⟨FP, hFP⟩ : ∃ A, fewP 40 l0 = A := ⟨_, rfl⟩
  rw [hFP] at hbig
  have hlF : FP.length ≤ 40 := by rw [← hFP]; exact fewP_len 40 _
  have HS0 : Hid (∀ W, Below w.heap.size w W → Calls Tryd.prog 27 #[v0] W fun e w' => ∃ p c, e = .returned (.slice p FP.length c) ∧ OwnP W.heap.size w' (.slice p FP.length c) FP ∧ Below W.heap.size W w') := Lib.hid fun W hb => by
    rw [← hFP]
    exact some06_any _ _ W (hs0.after hb) (by omega)
  have HKT := Lib.hid (fun W (hb : Below w.heap.size w W) => hK.belowP hb)
  have hkl2 : key.length ≤ 1073741824 := by have : (⟨key.toArray⟩ : ByteArray).size = key.length := rfl; omega
  obtain ⟨rt, er, hrt⟩ : ∃ x e, rootR FP = (x, e) := ⟨_, _, rfl⟩
  obtain ⟨wy, ew, hwy⟩ : ∃ x e, proveR FP key = (x, e) := ⟨_, _, rfl⟩
  obtain ⟨nl, en, hnl⟩ : ∃ x e, nodesR FP = (x, e) := ⟨_, _, rfl⟩
  have HRT : Hid (∀ v W, Pairs W v FP → KecT W → Calls Tryd.prog 29 #[v] W fun e w' => e = .returned (.tuple #[.string ⟨rt.toArray⟩, .int .i64 er]) ∧ Below W.heap.size W w') := Lib.hid fun v W hv hk => by
    have h := trieRootTop_any FP v W hv (by omega) hbig hk
    rw [hrt] at h
    exact h
  have HPT : Hid (∀ v W, Pairs W v FP → KecT W → Calls Tryd.prog 30 #[v, .string ⟨key.toArray⟩] W (TextsR W wy ew)) := Lib.hid fun v W hv hk => by
    have h := trieProve_any FP key v W hv (by omega) hbig hkl2 hk
    rw [hwy] at h
    exact h
  have HNT : Hid (∀ v W, Pairs W v FP → KecT W → Calls Tryd.prog 32 #[v] W (TextsR W nl en)) := Lib.hid fun v W hv hk => by
    have h := trieNodes_any FP v W hv (by omega) hbig hk
    rw [hnl] at h
    exact h
  have hbig2 : ∀ q ∈ FP.reverse, q.1.length ≤ 1099511627776 ∧ q.2.length ≤ 1099511627776 := fun q hq => hbig q (List.mem_reverse.1 hq)
  have HTU : Hid (∀ v W, Pairs W v FP → Calls Tryd.prog 28 #[v] W fun e w' => ∃ p c, e = .returned (.slice p FP.length c) ∧ OwnP W.heap.size w' (.slice p FP.length c) FP.reverse ∧ Below W.heap.size W w') := Lib.hid fun v W hv => turned_any FP v W hv (by omega)
  obtain ⟨rb, hrb⟩ : ∃ b, rightP FP = b := ⟨_, rfl⟩
  have HRI : Hid (∀ v W, Pairs W v FP → Calls Tryd.prog 25 #[v] W fun e w' => e = .returned (.bool rb) ∧ Below W.heap.size W w') := Lib.hid fun v W hv => by
    have h := trieRight_any FP v W hv (by omega) hbig
    rw [hrb] at h
    exact h
  have HRV : Hid (∀ v W, Pairs W v FP.reverse → Calls Tryd.prog 25 #[v] W fun e w' => e = .returned (.bool rb) ∧ Below W.heap.size W w') := Lib.hid fun v W hv => by
    have h := trieRight_any FP.reverse v W hv (by rw [List.length_reverse]; omega) hbig2
    rw [right_perm (List.reverse_perm FP), hrb] at h
    exact h
  have HF : Hid ((rb = false ∧ er = 60 ∧ wy = [] ∧ nl = []) ∨ (rb = true ∧ er = 0 ∧ FP = [] ∧ wy = [] ∧ nl = []) ∨ (rb = true ∧ er = 0 ∧ ew = 0 ∧ en = 0 ∧ FP ≠ [] ∧ ∃ b t t2, wy = b :: t ∧ nl = b :: t2 ∧ t.length ≤ t2.length ∧ keccakL b = rt ∧ b.length ≤ 20000)) := Lib.hid (by
    cases rb with
    | false =>
      rw [root_wrong hrb] at hrt
      rw [prove_wrong hrb] at hwy
      rw [nodes_wrong hrb] at hnl
      cases hrt; cases hwy; cases hnl
      exact .inl ⟨rfl, rfl, rfl, rfl⟩
    | true =>
      by_cases hne : FP = []
      · refine .inr (.inl ⟨rfl, ?_, hne, ?_, ?_⟩)
        · rw [root_right hrb] at hrt; cases hrt; rfl
        · rw [hne] at hwy; cases hwy; rfl
        · rw [hne] at hnl; cases hnl; rfl
      · rw [root_right hrb] at hrt
        rw [prove_right hrb hne] at hwy
        rw [nodes_right hrb hne] at hnl
        cases hrt; cases hwy; cases hnl
        obtain ⟨hv, hf⟩ := right_valid hrb hne
        obtain ⟨t, ht, -⟩ := way_top (K := keccakL) (path := halves key) (isPath_halves key) hv
        obtain ⟨t2, ht2⟩ := nodes_top (K := keccakL) (ps := FP)
        have hsub := (way_sub (K := keccakL) (f := 129) (ps := FP) (d := 0) (isPath_halves key)).length_le
        rw [ht, ht2] at hsub
        refine .inr (.inr ⟨rfl, rfl, rfl, rfl, hne, _, t, t2, ht, ht2, by simpa using hsub, (root_cons (K := keccakL) hne).symm, ?_⟩)
        exact told_len (K := keccakL) keccakL_length 129 FP 0 hv hf (by omega) _ (by unfold toldP; rw [if_pos (.inl rfl)]; simp))
  obtain ⟨fl, hfl⟩ : ∃ n, FP.length = n := ⟨_, rfl⟩
  have HFL := Lib.hid hfl
  rw [hfl] at HS0 HTU
  clear hs0 g0 g1 hK hl hbig hFP hlF hbig2 hkl hkl2 hrt hwy hnl hfl hrb
  go_enter Tryd.func12, Tryd.ntmps12
  go_wp2_with fail
  refine HSH.out.mono ?_
  rintro e w1 ⟨rfl, hb1⟩
  have HB1 := Lib.hid hb1
  clear hb1 HSH
  go_wp2_with fail
  refine (HS0.out _ HB1.out).mono ?_
  rintro e w2 ⟨p2, c2, rfl, ho2, hb2⟩
  have HB2 := Lib.hid (HB1.out.trans (hb2.mono HB1.out.size))
  have HP2 := Lib.hid ho2.pairs
  clear hb2 ho2 HB1 HS0
  go_wp2_with fail
  refine (HRT.out _ _ HP2.out (HKT.out _ HB2.out)).mono ?_
  rintro e w3 ⟨rfl, hb3⟩
  have HB3 := Lib.hid (HB2.out.trans (hb3.mono HB2.out.size))
  have HP3 := Lib.hid (HP2.out.after hb3)
  clear hb3 HRT HB2 HP2
  go_wp2_with fail
  refine (HPT.out _ _ HP3.out (HKT.out _ HB3.out)).mono ?_
  rintro e w4 ⟨p4, c4, rfl, ho4, hb4⟩
  have HB4 := Lib.hid (HB3.out.trans (hb4.mono HB3.out.size))
  have HP4 := Lib.hid (HP3.out.after hb4)
  have HY4 := Lib.hid ho4.strs
  clear hb4 ho4 HPT HB3 HP3
  go_wp2_with fail
  refine (HNT.out _ _ HP4.out (HKT.out _ HB4.out)).mono ?_
  rintro e w5 ⟨p5, c5, rfl, ho5, hb5⟩
  have HB5 := Lib.hid (HB4.out.trans (hb5.mono HB4.out.size))
  have HP5 := Lib.hid (HP4.out.after hb5)
  have HY5 := Lib.hid (HY4.out.below hb5)
  have HN5 := Lib.hid ho5.strs
  clear hb5 ho5 HNT HB4 HP4 HY4
  go_wp2_with fail
  refine (HRI.out _ _ HP5.out).mono ?_
  rintro e w6 ⟨rfl, hb6⟩
  have HB6 := Lib.hid (HB5.out.trans (hb6.mono HB5.out.size))
  have HP6 := Lib.hid (HP5.out.after hb6)
  have HY6 := Lib.hid (HY5.out.below hb6)
  have HN6 := Lib.hid (HN5.out.below hb6)
  clear hb6 HB5 HP5 HY5 HN5
  go_wp2_with fail
  refine (HTU.out _ _ HP6.out).mono ?_
  rintro e w7 ⟨p7, c7, rfl, ho7, hb7⟩
  have HB7 := Lib.hid (HB6.out.trans (hb7.mono HB6.out.size))
  have HP7 := Lib.hid (HP6.out.after hb7)
  have HY7 := Lib.hid (HY6.out.below hb7)
  have HN7 := Lib.hid (HN6.out.below hb7)
  have HQ7 := Lib.hid ho7.pairs
  clear hb7 HTU HB6 HP6 HY6 HN6 ho7
  go_wp2_with fail
  refine (HRV.out _ _ HQ7.out).mono ?_
  rintro e w8 ⟨rfl, hb8⟩
  have HB8 := Lib.hid (HB7.out.trans (hb8.mono HB7.out.size))
  have HP8 := Lib.hid (HP7.out.after hb8)
  have HY8 := Lib.hid (HY7.out.below hb8)
  have HN8 := Lib.hid (HN7.out.below hb8)
  clear hb8 HRV HB7 HP7 HY7 HN7 HQ7
  rcases HF.out with ⟨rfl, rfl, rfl, rfl⟩ | ⟨rfl, rfl, hfe, rfl, rfl⟩ | ⟨rfl, rfl, rfl, rfl, hne, b0, t, t2, rfl, rfl, htl, hkb, hbl⟩
  · clear HF
    go_wp2_with fail
    refine (HRI.out _ _ HP8.out).mono ?_
    rintro e w9 ⟨rfl, hb9⟩
    have HB9 := Lib.hid (HB8.out.trans (hb9.mono HB8.out.size))
    clear hb9
    go_wp2_with fail
    go_ret
    exact ⟨rfl, HB9.out⟩
  · obtain rfl : fl = 0 := by rw [← HFL.out, hfe]; rfl
    clear HF hfe
    go_wp2_with fail
    refine (HRI.out _ _ HP8.out).mono ?_
    rintro e w9 ⟨rfl, hb9⟩
    have HB9 := Lib.hid (HB8.out.trans (hb9.mono HB8.out.size))
    clear hb9
    go_wp2_with fail
    go_ret
    exact ⟨rfl, HB9.out⟩
  · have hf0 : ¬ ((fl : Int) = 0) := by
      rw [← HFL.out]
      have : FP.length ≠ 0 := fun e => hne (List.eq_nil_of_length_eq_zero e)
      omega
    have hf1 : ((fl : Int) == 0) = false := by simpa using hf0
    clear HF hne
    go_wp2_with fail
    refine (HRI.out _ _ HP8.out).mono ?_
    rintro e w9 ⟨rfl, hb9⟩
    have HB9 := Lib.hid (HB8.out.trans (hb9.mono HB8.out.size))
    have HY9 := Lib.hid (HY8.out.below hb9)
    have HN9 := Lib.hid (HN8.out.below hb9)
    clear hb9 HB8 HP8 HY8 HN8
    obtain ⟨_, _, hv1, -, hor1⟩ := HY9.out
    obtain ⟨_, _, hv2, -, hor2⟩ := HN9.out
    injection hv1 with hp1
    injection hv2 with hp2
    subst hp1 hp2
    obtain ⟨by1, o1, rfl, hb1, hc1⟩ := hor1.resolve_left (by simp)
    obtain ⟨by2, o2, rfl, hb2, hc2⟩ := hor2.resolve_left (by simp)
    have hc1 := hc1 0 _ rfl
    have hc2 := hc2 0 _ rfl
    rw [Nat.add_zero, show bt b0 = ⟨b0.toArray⟩ from rfl] at hc1 hc2
    have HC := Lib.hid (fun W (hb : Below w9.heap.size w9 W) => (show W.cell? ⟨by1, o1, none⟩ = some (.string ⟨b0.toArray⟩) ∧ W.cell? ⟨by2, o2, none⟩ = some (.string ⟨b0.toArray⟩) from ⟨(hb.cell (p := ⟨by1, o1, none⟩) hb1).trans hc1, (hb.cell (p := ⟨by2, o2, none⟩) hb2).trans hc2⟩))
    have HSU := Lib.hid (fun W => rkSum_l hkb (by omega) W)
    obtain ⟨n1, hn1⟩ : ∃ n, t.length + 1 = n := ⟨_, rfl⟩
    obtain ⟨n2, hn2⟩ : ∃ n, t2.length + 1 = n := ⟨_, rfl⟩
    rw [hn1, hn2]
    have i1 : (0 : Int) < n1 := by rw [← hn1]; omega
    have i2 : (0 : Int) < n2 := by rw [← hn2]; omega
    have i3 : (n1 : Int) ≤ n2 := by rw [← hn1, ← hn2]; omega
    have i4 : 0 < n1 := by omega
    have i5 : 0 < n2 := by omega
    clear hor1 hor2 hc1 hc2 hn1 hn2 htl hkb hbl HY9 HN9
    go_wp2_with fail
    refine wp_region_held_drew (S := (fun W => W.cell? ⟨by1, o1, none⟩ = some (.string ⟨b0.toArray⟩) ∧ W.cell? ⟨by2, o2, none⟩ = some (.string ⟨b0.toArray⟩))) (by kernel_rfl) (HC.out _ (Below.refl _ _).drew) (fun hHeld => ?_)
    refine wpAnyH_take (i := 0) (v := ?_) rfl (by kernel_rfl) (by kernel_rfl) (by kernel_rfl) (fun _ _ _ h => h) (.inl ⟨by rfl, ?_⟩) (by assumption) ?_
    rotate_left 1
    · intro w0 hSw
      go_simp <;> with_reducible rfl
    try simp only [Act.put, List.getElem_toArray, List.getElem_cons_zero, List.setIfInBounds_toArray, List.set_cons_zero, List.set_cons_succ]
    refine wpAnyH_take (i := 1) (v := ?_) rfl (by kernel_rfl) (by kernel_rfl) (by kernel_rfl) (fun _ _ _ h => h) (.inl ⟨by rfl, ?_⟩) (by assumption) ?_
    rotate_left 1
    · intro w0 hSw
      go_simp <;> with_reducible rfl
    try simp only [Act.put, List.getElem_toArray, List.getElem_cons_zero, List.getElem_cons_succ, List.setIfInBounds_toArray, List.set_cons_zero, List.set_cons_succ]
    refine wpAnyH_take (i := 2) (v := ?_) rfl (by kernel_rfl) (by kernel_rfl) (by kernel_rfl) (fun _ _ _ h => h) (.inl ⟨by rfl, ?_⟩) (by assumption) ?_
    rotate_left 1
    · intro w0 hSw
      go_simp <;> with_reducible rfl
    try simp only [Act.put, List.getElem_toArray, List.getElem_cons_zero, List.getElem_cons_succ, List.setIfInBounds_toArray, List.set_cons_zero, List.set_cons_succ]
    refine wpAnyH_take (i := 3) (v := ?_) rfl (by kernel_rfl) (by kernel_rfl) (by kernel_rfl) (fun _ _ _ h => h) (.inl ⟨by rfl, ?_⟩) (by assumption) ?_
    rotate_left 1
    · intro w0 hSw
      go_simp <;> with_reducible rfl
    try simp only [Act.put, List.getElem_toArray, List.getElem_cons_zero, List.getElem_cons_succ, List.setIfInBounds_toArray, List.set_cons_zero, List.set_cons_succ]
    refine wpAnyH_take (i := 4) (v := ?_) rfl (by kernel_rfl) (by kernel_rfl) (by kernel_rfl) (fun _ _ _ h => h) (.inl ⟨by rfl, ?_⟩) (by assumption) ?_
    rotate_left 1
    · intro w0 hSw
      go_simp <;> with_reducible rfl
    try simp only [Act.put, List.getElem_toArray, List.getElem_cons_zero, List.getElem_cons_succ, List.setIfInBounds_toArray, List.set_cons_zero, List.set_cons_succ]
    refine wpAnyH_take (i := 5) (v := ?_) rfl (by kernel_rfl) (by kernel_rfl) (by kernel_rfl) (fun _ _ _ h => h) (.inl ⟨by rfl, ?_⟩) (by assumption) ?_
    rotate_left 1
    · intro w0 hSw
      go_simp <;> with_reducible rfl
    try simp only [Act.put, List.getElem_toArray, List.getElem_cons_zero, List.getElem_cons_succ, List.setIfInBounds_toArray, List.set_cons_zero, List.set_cons_succ]
    refine wpAnyH_take (i := 6) (v := ?_) rfl (by kernel_rfl) (by kernel_rfl) (by kernel_rfl) (fun _ _ _ h => h) (.inl ⟨by rfl, ?_⟩) (by assumption) ?_
    rotate_left 1
    · intro w0 hSw
      go_simp <;> with_reducible rfl
    try simp only [Act.put, List.getElem_toArray, List.getElem_cons_zero, List.getElem_cons_succ, List.setIfInBounds_toArray, List.set_cons_zero, List.set_cons_succ]
    refine wpAnyH_take (i := 7) (v := ?_) rfl (by kernel_rfl) (by kernel_rfl) (by kernel_rfl) (fun _ _ _ h => h) (.inl ⟨by rfl, ?_⟩) (by assumption) ?_
    rotate_left 1
    · intro w0 hSw
      go_simp <;> with_reducible rfl
    try simp only [Act.put, List.getElem_toArray, List.getElem_cons_zero, List.getElem_cons_succ, List.setIfInBounds_toArray, List.set_cons_zero, List.set_cons_succ]
    refine wpAnyH_take (i := 8) (v := ?_) rfl (by kernel_rfl) (by kernel_rfl) (by kernel_rfl) (fun _ _ _ h => h) (.inl ⟨by rfl, ?_⟩) (by assumption) ?_
    rotate_left 1
    · intro w0 hSw
      go_simp <;> with_reducible rfl
    try simp only [Act.put, List.getElem_toArray, List.getElem_cons_zero, List.getElem_cons_succ, List.setIfInBounds_toArray, List.set_cons_zero, List.set_cons_succ]
    refine wpAnyH_take (i := 9) (v := ?_) rfl (by kernel_rfl) (by kernel_rfl) (by kernel_rfl) (fun _ _ _ h => h) (.inl ⟨by rfl, ?_⟩) (by assumption) ?_
    rotate_left 1
    · intro w0 hSw
      go_simp <;> with_reducible rfl
    try simp only [Act.put, List.getElem_toArray, List.getElem_cons_zero, List.getElem_cons_succ, List.setIfInBounds_toArray, List.set_cons_zero, List.set_cons_succ]
    refine wpAnyH_take (i := 10) (v := ?_) rfl (by kernel_rfl) (by kernel_rfl) (by kernel_rfl) (fun _ _ _ h => h) (.inl ⟨by rfl, ?_⟩) (by assumption) ?_
    rotate_left 1
    · intro w0 hSw
      go_simp <;> with_reducible rfl
    try simp only [Act.put, List.getElem_toArray, List.getElem_cons_zero, List.getElem_cons_succ, List.setIfInBounds_toArray, List.set_cons_zero, List.set_cons_succ]
    refine wpAnyH_take (i := 11) (v := ?_) rfl (by kernel_rfl) (by kernel_rfl) (by kernel_rfl) (fun _ _ _ h => h) (.inl ⟨by rfl, ?_⟩) (by assumption) ?_
    rotate_left 1
    · intro w0 hSw
      go_simp <;> with_reducible rfl
    try simp only [Act.put, List.getElem_toArray, List.getElem_cons_zero, List.getElem_cons_succ, List.setIfInBounds_toArray, List.set_cons_zero, List.set_cons_succ]
    refine wpAnyH_take (i := 12) (v := ?_) rfl (by kernel_rfl) (by kernel_rfl) (by kernel_rfl) (fun _ _ _ h => h) (.inl ⟨by rfl, ?_⟩) (by assumption) ?_
    rotate_left 1
    · intro w0 hSw
      go_simp <;> with_reducible rfl
    try simp only [Act.put, List.getElem_toArray, List.getElem_cons_zero, List.getElem_cons_succ, List.setIfInBounds_toArray, List.set_cons_zero, List.set_cons_succ]
    refine wpAnyH_take (i := 13) (v := ?_) rfl (by kernel_rfl) (by kernel_rfl) (by kernel_rfl) (fun _ _ _ h => h) (.inl ⟨by rfl, ?_⟩) (by assumption) ?_
    rotate_left 1
    · intro w0 hSw
      go_simp <;> with_reducible rfl
    try simp only [Act.put, List.getElem_toArray, List.getElem_cons_zero, List.getElem_cons_succ, List.setIfInBounds_toArray, List.set_cons_zero, List.set_cons_succ]
    refine wpAnyH_take (i := 14) (v := ?_) rfl (by kernel_rfl) (by kernel_rfl) (by kernel_rfl) (fun _ _ _ h => h) (.inl ⟨by rfl, ?_⟩) (by assumption) ?_
    rotate_left 1
    · intro w0 hSw
      go_simp <;> with_reducible rfl
    try simp only [Act.put, List.getElem_toArray, List.getElem_cons_zero, List.getElem_cons_succ, List.setIfInBounds_toArray, List.set_cons_zero, List.set_cons_succ]
    refine wpAnyH_take (i := 15) (v := ?_) rfl (by kernel_rfl) (by kernel_rfl) (by kernel_rfl) (fun _ _ _ h => h) (.inl ⟨by rfl, ?_⟩) (by assumption) ?_
    rotate_left 1
    · intro w0 hSw
      go_simp <;> with_reducible rfl
    try simp only [Act.put, List.getElem_toArray, List.getElem_cons_zero, List.getElem_cons_succ, List.setIfInBounds_toArray, List.set_cons_zero, List.set_cons_succ]
    refine wpAnyH_take (i := 16) (v := ?_) rfl (by kernel_rfl) (by kernel_rfl) (by kernel_rfl) (fun _ _ _ h => h) (.inl ⟨by rfl, ?_⟩) (by assumption) ?_
    rotate_left 1
    · intro w0 hSw
      go_simp <;> with_reducible rfl
    try simp only [Act.put, List.getElem_toArray, List.getElem_cons_zero, List.getElem_cons_succ, List.setIfInBounds_toArray, List.set_cons_zero, List.set_cons_succ]
    refine wpAnyH_take (i := 17) (v := ?_) rfl (by kernel_rfl) (by kernel_rfl) (by kernel_rfl) (fun _ _ _ h => h) (.inl ⟨by rfl, ?_⟩) (by assumption) ?_
    rotate_left 1
    · intro w0 hSw
      go_simp <;> with_reducible rfl
    try simp only [Act.put, List.getElem_toArray, List.getElem_cons_zero, List.getElem_cons_succ, List.setIfInBounds_toArray, List.set_cons_zero, List.set_cons_succ]
    refine wpAnyH_take (i := 18) (v := ?_) rfl (by kernel_rfl) (by kernel_rfl) (by kernel_rfl) (fun _ _ _ h => h) (.inl ⟨by rfl, ?_⟩) (by assumption) ?_
    rotate_left 1
    · intro w0 hSw
      go_simp <;> with_reducible rfl
    try simp only [Act.put, List.getElem_toArray, List.getElem_cons_zero, List.getElem_cons_succ, List.setIfInBounds_toArray, List.set_cons_zero, List.set_cons_succ]
    refine wpAnyH_take (i := 19) (v := ?_) rfl (by kernel_rfl) (by kernel_rfl) (by kernel_rfl) (fun _ _ _ h => h) (.inl ⟨by rfl, ?_⟩) (by assumption) ?_
    rotate_left 1
    · intro w0 hSw
      go_simp <;> with_reducible rfl
    try simp only [Act.put, List.getElem_toArray, List.getElem_cons_zero, List.getElem_cons_succ, List.setIfInBounds_toArray, List.set_cons_zero, List.set_cons_succ]
    refine wpAnyH_take (i := 20) (v := ?_) rfl (by kernel_rfl) (by kernel_rfl) (by kernel_rfl) (fun _ _ _ h => h) (.inl ⟨by rfl, ?_⟩) (by assumption) ?_
    rotate_left 1
    · intro w0 hSw
      go_simp <;> with_reducible rfl
    try simp only [Act.put, List.getElem_toArray, List.getElem_cons_zero, List.getElem_cons_succ, List.setIfInBounds_toArray, List.set_cons_zero, List.set_cons_succ]
    refine wpAnyH_take (i := 21) (v := ?_) rfl (by kernel_rfl) (by kernel_rfl) (by kernel_rfl) (fun _ _ _ h => h) (.inl ⟨by rfl, ?_⟩) (by assumption) ?_
    rotate_left 1
    · intro w0 hSw
      go_simp <;> with_reducible rfl
    try simp only [Act.put, List.getElem_toArray, List.getElem_cons_zero, List.getElem_cons_succ, List.setIfInBounds_toArray, List.set_cons_zero, List.set_cons_succ]
    refine wpAnyH_take (i := 22) (v := ?_) rfl (by kernel_rfl) (by kernel_rfl) (by kernel_rfl) (fun _ _ _ h => h) (.inl ⟨by rfl, ?_⟩) (by assumption) ?_
    rotate_left 1
    · intro w0 hSw
      go_simp <;> with_reducible rfl
    try simp only [Act.put, List.getElem_toArray, List.getElem_cons_zero, List.getElem_cons_succ, List.setIfInBounds_toArray, List.set_cons_zero, List.set_cons_succ]
    refine wpAnyH_take (i := 23) (v := ?_) rfl (by kernel_rfl) (by kernel_rfl) (by kernel_rfl) (fun _ _ _ h => h) (.inl ⟨by rfl, ?_⟩) (by assumption) ?_
    rotate_left 1
    · intro w0 hSw
      go_simp <;> with_reducible rfl
    try simp only [Act.put, List.getElem_toArray, List.getElem_cons_zero, List.getElem_cons_succ, List.setIfInBounds_toArray, List.set_cons_zero, List.set_cons_succ]
    refine wpAnyH_take (i := 24) (v := ?_) rfl (by kernel_rfl) (by kernel_rfl) (by kernel_rfl) (fun _ _ _ h => h) (.inl ⟨by rfl, ?_⟩) (by assumption) ?_
    rotate_left 1
    · intro w0 hSw
      obtain ⟨z0, z1⟩ := hSw
      go_simp <;> with_reducible rfl
    try simp only [Act.put, List.getElem_toArray, List.getElem_cons_zero, List.getElem_cons_succ, List.setIfInBounds_toArray, List.set_cons_zero, List.set_cons_succ]
    refine wpAnyH_take (i := 26) (v := ?_) rfl (by kernel_rfl) (by kernel_rfl) (by kernel_rfl) (fun _ _ _ h => h) (.inl ⟨by rfl, ?_⟩) (by assumption) ?_
    rotate_left 1
    · intro w0 hSw
      go_simp <;> with_reducible rfl
    try simp only [Act.put, List.getElem_toArray, List.getElem_cons_zero, List.getElem_cons_succ, List.setIfInBounds_toArray, List.set_cons_zero, List.set_cons_succ]
    refine wpAnyH_ready (rs := [25]) (by kernel_rfl) (by simp) ?_
    refine AllReadyH.cons rfl (fun K hK => ?_) AllReadyH.nil
    go_simp
    go_at_call 33
    refine (HSU.out _).mono ?_
    rintro e wa ⟨rfl, hba⟩
    have HSa := Lib.hid (show Below w9.heap.size w9 wa from (Below.refl _ _).drew.trans hba)
    have HBa := Lib.hid (HB9.out.trans (HSa.out.mono HB9.out.size))
    clear hba
    refine hK.out _ _ (HC.out _ HSa.out) (fun hHeld => ?_)
    clear hK K
    try simp only [Act.put, List.getElem_toArray, List.getElem_cons_zero, List.getElem_cons_succ, List.setIfInBounds_toArray, List.set_cons_zero, List.set_cons_succ]
    refine wpAnyH_take (i := 27) (v := ?_) rfl (by kernel_rfl) (by kernel_rfl) (by kernel_rfl) (fun _ _ _ h => h) (.inl ⟨by rfl, ?_⟩) (by assumption) ?_
    rotate_left 1
    · intro w0 hSw
      go_simp <;> with_reducible rfl
    try simp only [Act.put, List.getElem_toArray, List.getElem_cons_zero, List.getElem_cons_succ, List.setIfInBounds_toArray, List.set_cons_zero, List.set_cons_succ]
    refine wpAnyH_take (i := 28) (v := ?_) rfl (by kernel_rfl) (by kernel_rfl) (by kernel_rfl) (fun _ _ _ h => h) (.inl ⟨by rfl, ?_⟩) (by assumption) ?_
    rotate_left 1
    · intro w0 hSw
      go_simp <;> with_reducible rfl
    try simp only [Act.put, List.getElem_toArray, List.getElem_cons_zero, List.getElem_cons_succ, List.setIfInBounds_toArray, List.set_cons_zero, List.set_cons_succ]
    refine wpAnyH_take (i := 29) (v := ?_) rfl (by kernel_rfl) (by kernel_rfl) (by kernel_rfl) (fun _ _ _ h => h) (.inl ⟨by rfl, ?_⟩) (by assumption) ?_
    rotate_left 1
    · intro w0 hSw
      go_simp <;> with_reducible rfl
    try simp only [Act.put, List.getElem_toArray, List.getElem_cons_zero, List.getElem_cons_succ, List.setIfInBounds_toArray, List.set_cons_zero, List.set_cons_succ]
    refine wpAnyH_take (i := 30) (v := ?_) rfl (by kernel_rfl) (by kernel_rfl) (by kernel_rfl) (fun _ _ _ h => h) (.inl ⟨by rfl, ?_⟩) (by assumption) ?_
    rotate_left 1
    · intro w0 hSw
      go_simp <;> with_reducible rfl
    try simp only [Act.put, List.getElem_toArray, List.getElem_cons_zero, List.getElem_cons_succ, List.setIfInBounds_toArray, List.set_cons_zero, List.set_cons_succ]
    refine wpAnyH_take (i := 31) (v := ?_) rfl (by kernel_rfl) (by kernel_rfl) (by kernel_rfl) (fun _ _ _ h => h) (.inl ⟨by rfl, ?_⟩) (by assumption) ?_
    rotate_left 1
    · intro w0 hSw
      go_simp <;> with_reducible rfl
    try simp only [Act.put, List.getElem_toArray, List.getElem_cons_zero, List.getElem_cons_succ, List.setIfInBounds_toArray, List.set_cons_zero, List.set_cons_succ]
    refine wpAnyH_take (i := 32) (v := ?_) rfl (by kernel_rfl) (by kernel_rfl) (by kernel_rfl) (fun _ _ _ h => h) (.inl ⟨by rfl, ?_⟩) (by assumption) ?_
    rotate_left 1
    · intro w0 hSw
      obtain ⟨z0, z1⟩ := hSw
      go_simp <;> with_reducible rfl
    try simp only [Act.put, List.getElem_toArray, List.getElem_cons_zero, List.getElem_cons_succ, List.setIfInBounds_toArray, List.set_cons_zero, List.set_cons_succ]
    refine wpAnyH_take (i := 33) (v := ?_) rfl (by kernel_rfl) (by kernel_rfl) (by kernel_rfl) (fun _ _ _ h => h) (.inl ⟨by rfl, ?_⟩) (by assumption) ?_
    rotate_left 1
    · intro w0 hSw
      go_simp <;> with_reducible rfl
    try simp only [Act.put, List.getElem_toArray, List.getElem_cons_zero, List.getElem_cons_succ, List.setIfInBounds_toArray, List.set_cons_zero, List.set_cons_succ]
    refine wpAnyH_take (i := 34) (v := ?_) rfl (by kernel_rfl) (by kernel_rfl) (by kernel_rfl) (fun _ _ _ h => h) (.inl ⟨by rfl, ?_⟩) (by assumption) ?_
    rotate_left 1
    · intro w0 hSw
      go_simp <;> with_reducible rfl
    try simp only [Act.put, List.getElem_toArray, List.getElem_cons_zero, List.getElem_cons_succ, List.setIfInBounds_toArray, List.set_cons_zero, List.set_cons_succ]
    refine wpAnyH_take (i := 35) (v := ?_) rfl (by kernel_rfl) (by kernel_rfl) (by kernel_rfl) (fun _ _ _ h => h) (.inl ⟨by rfl, ?_⟩) (by assumption) ?_
    rotate_left 1
    · intro w0 hSw
      obtain ⟨z0, z1⟩ := hSw
      go_simp <;> with_reducible rfl
    try simp only [Act.put, List.getElem_toArray, List.getElem_cons_zero, List.getElem_cons_succ, List.setIfInBounds_toArray, List.set_cons_zero, List.set_cons_succ]
    refine wpAnyH_take (i := 36) (v := ?_) rfl (by kernel_rfl) (by kernel_rfl) (by kernel_rfl) (fun _ _ _ h => h) (.inl ⟨by rfl, ?_⟩) (by assumption) ?_
    rotate_left 1
    · intro w0 hSw
      go_simp <;> with_reducible rfl
    try simp only [Act.put, List.getElem_toArray, List.getElem_cons_zero, List.getElem_cons_succ, List.setIfInBounds_toArray, List.set_cons_zero, List.set_cons_succ]
    refine wpAnyH_take (i := 37) (v := ?_) rfl (by kernel_rfl) (by kernel_rfl) (by kernel_rfl) (fun _ _ _ h => h) (.inl ⟨by rfl, ?_⟩) (by assumption) ?_
    rotate_left 1
    · intro w0 hSw
      go_simp <;> with_reducible rfl
    try simp only [Act.put, List.getElem_toArray, List.getElem_cons_zero, List.getElem_cons_succ, List.setIfInBounds_toArray, List.set_cons_zero, List.set_cons_succ]
    refine wpAnyH_take (i := 38) (v := ?_) rfl (by kernel_rfl) (by kernel_rfl) (by kernel_rfl) (fun _ _ _ h => h) (.inl ⟨by rfl, ?_⟩) (by assumption) ?_
    rotate_left 1
    · intro w0 hSw
      go_simp <;> with_reducible rfl
    try simp only [Act.put, List.getElem_toArray, List.getElem_cons_zero, List.getElem_cons_succ, List.setIfInBounds_toArray, List.set_cons_zero, List.set_cons_succ]
    refine wpAnyH_done (by kernel_rfl) ?_ 0
    go_wp2_with fail
    go_ret
    exact ⟨rfl, HBa.out⟩
end Go.Proofs.YthicdhnjincflaaDoor

namespace Go.Proofs.YthicdhnjincflaaDoor
open Go.RowKit Go.Shelf Go.Lib
attribute [local go_sem] Oper.semAt_some
theorem sub_step {x y : List UInt8} {r l : List (List UInt8)} (h : (x :: r).Sublist (y :: l)) : (x = y ∧ r.Sublist l) ∨ (x ≠ y ∧ (x :: r).Sublist l) := by
  by_cases e : x = y
  · subst e
    exact .inl ⟨rfl, List.cons_sublist_cons.1 h⟩
  · refine .inr ⟨e, ?_⟩
    cases h with
    | cons _ h => exact h
    | cons_cons _ h => exact absurd rfl e
theorem drop_at {l : List (List UInt8)} {k : Nat} (h : k < l.length) : l.drop k = l[k] :: l.drop (k + 1) := List.drop_eq_getElem_cons h
theorem nodes_lenR {ps : List PairD} (h : ps.length ≤ 40) : (nodesR ps).1.length ≤ 10000 := by
  cases hr : rightP ps with
  | false => rw [nodes_wrong hr]; exact Nat.zero_le _
  | true =>
    by_cases hne : ps = []
    · rw [hne]; exact Nat.zero_le _
    · rw [nodes_right hr hne]
      have := nodes_len (K := keccakL) 129 ps 0 hne
      dsimp only
      omega
set_option maxRecDepth 100000 in
set_option maxHeartbeats 6400000 in
theorem refers_law (v0 : Value) (l0 : List PairD) (s1 : ByteArray) (w : World) (hs0 : Pairs w v0 l0) (g0 : weightP l0 ≤ 1048576) (g1 : s1.size ≤ 1048576) (hK : KecT w) :
    Calls Tryd.prog 11 #[v0, .string s1] w fun e w' => e = .returned (.bool true) ∧ Below w.heap.size w w' := by
  obtain ⟨key, rfl, hkl⟩ := bytes_list s1
  have hl := weightP_len l0
  have HSH := Lib.hid (shown06_any w hK)
  have hbig := fewP_big (n := 40) g0
  obtain ⟨FP, hFP⟩ : ∃ A, fewP 40 l0 = A := ⟨_, rfl⟩
  rw [hFP] at hbig
  have hlF : FP.length ≤ 40 := by rw [← hFP]; exact fewP_len 40 _
  have HS0 : Hid (∀ W, Below w.heap.size w W → Calls Tryd.prog 27 #[v0] W fun e w' => ∃ p c, e = .returned (.slice p FP.length c) ∧ OwnP W.heap.size w' (.slice p FP.length c) FP ∧ Below W.heap.size W w') := Lib.hid fun W hb => by
    rw [← hFP]
    exact some06_any _ _ W (hs0.after hb) (by omega)
  have HKT := Lib.hid (fun W (hb : Below w.heap.size w W) => hK.belowP hb)
  have hkl2 : key.length ≤ 1073741824 := by have : (⟨key.toArray⟩ : ByteArray).size = key.length := rfl; omega
  obtain ⟨rt, er, hrt⟩ : ∃ x e, rootR FP = (x, e) := ⟨_, _, rfl⟩
  obtain ⟨wy, ew, hwy⟩ : ∃ x e, proveR FP key = (x, e) := ⟨_, _, rfl⟩
  obtain ⟨nl, en, hnl⟩ : ∃ x e, nodesR FP = (x, e) := ⟨_, _, rfl⟩
  have HRT : Hid (∀ v W, Pairs W v FP → KecT W → Calls Tryd.prog 29 #[v] W fun e w' => e = .returned (.tuple #[.string ⟨rt.toArray⟩, .int .i64 er]) ∧ Below W.heap.size W w') := Lib.hid fun v W hv hk => by
    have h := trieRootTop_any FP v W hv (by omega) hbig hk
    rw [hrt] at h
    exact h
  have HPT : Hid (∀ v W, Pairs W v FP → KecT W → Calls Tryd.prog 30 #[v, .string ⟨key.toArray⟩] W (TextsR W wy ew)) := Lib.hid fun v W hv hk => by
    have h := trieProve_any FP key v W hv (by omega) hbig hkl2 hk
    rw [hwy] at h
    exact h
  have HNT : Hid (∀ v W, Pairs W v FP → KecT W → Calls Tryd.prog 32 #[v] W (TextsR W nl en)) := Lib.hid fun v W hv hk => by
    have h := trieNodes_any FP v W hv (by omega) hbig hk
    rw [hnl] at h
    exact h
  have hnll : nl.length ≤ 10000 := by
    have h := nodes_lenR (ps := FP) hlF
    rw [hnl] at h
    exact h
  have hwll : wy.length ≤ 1000 := by
    have h := prove_len FP key
    rw [hwy] at h
    exact h
  have HF : Hid ((ew = 60 ∧ en = 60 ∧ wy = [] ∧ nl = []) ∨ (ew = 0 ∧ en = 0 ∧ wy.Sublist nl ∧ (∀ k s, 0 < k → wy[k]? = some s → 32 ≤ s.length) ∧ (FP.length = 0 ∨ 0 < wy.length))) := Lib.hid (by
    cases hrb : rightP FP with
    | false =>
      rw [prove_wrong hrb] at hwy
      rw [nodes_wrong hrb] at hnl
      cases hwy; cases hnl
      exact .inl ⟨rfl, rfl, rfl, rfl⟩
    | true =>
      by_cases hne : FP = []
      · rw [hne, show proveR [] key = ([], 0) from rfl] at hwy
        rw [hne, show nodesR [] = ([], 0) from rfl] at hnl
        cases hwy; cases hnl
        exact .inr ⟨rfl, rfl, List.Sublist.refl _, (fun k s _ h => by cases h), .inl (by rw [hne]; rfl)⟩
      · rw [prove_right hrb hne] at hwy
        rw [nodes_right hrb hne] at hnl
        cases hwy; cases hnl
        obtain ⟨hv, hf⟩ := right_valid hrb hne
        obtain ⟨t, ht, hlong⟩ := way_top (K := keccakL) (path := halves key) (isPath_halves key) hv
        have hsub := (way_sub (K := keccakL) (f := 129) (ps := FP) (d := 0) (isPath_halves key))
        refine .inr ⟨rfl, rfl, hsub, fun k s hk h => ?_, .inr (by rw [ht]; simp)⟩
        rw [ht] at h
        cases k with
        | zero => omega
        | succ k => exact hlong s (List.mem_of_getElem? (by simpa using h)))
  obtain ⟨fl, hfl⟩ : ∃ n, FP.length = n := ⟨_, rfl⟩
  have HFL := Lib.hid hfl
  obtain ⟨n, hn⟩ : ∃ n, wy.length = n := ⟨_, rfl⟩
  obtain ⟨m, hm⟩ : ∃ n, nl.length = n := ⟨_, rfl⟩
  have HN := Lib.hid hn
  have HM := Lib.hid hm
  rw [hn] at hwll
  rw [hm] at hnll
  rw [hfl] at HS0
  clear hs0 g0 g1 hK hl hbig hFP hlF hkl hkl2 hrt hwy hnl hfl hn hm HRT
  go_enter Tryd.func11, Tryd.ntmps11
  go_wp2_with fail
  refine HSH.out.mono ?_
  rintro e w1 ⟨rfl, hb1⟩
  have HB1 := Lib.hid hb1
  clear hb1 HSH
  go_wp2_with fail
  refine (HS0.out _ HB1.out).mono ?_
  rintro e w2 ⟨p2, c2, rfl, ho2, hb2⟩
  have HB2 := Lib.hid (HB1.out.trans (hb2.mono HB1.out.size))
  have HP2 := Lib.hid ho2.pairs
  clear hb2 ho2 HB1 HS0
  go_wp2_with fail
  refine (HPT.out _ _ HP2.out (HKT.out _ HB2.out)).mono ?_
  rintro e w3 ⟨p4, c4, rfl, ho4, hb3⟩
  have HB3 := Lib.hid (HB2.out.trans (hb3.mono HB2.out.size))
  have HP3 := Lib.hid (HP2.out.after hb3)
  have HY4 := Lib.hid ho4.strs
  clear hb3 ho4 HPT HB2 HP2
  go_wp2_with fail
  refine (HNT.out _ _ HP3.out (HKT.out _ HB3.out)).mono ?_
  rintro e w4 ⟨p5, c5, rfl, ho5, hb4⟩
  have HB4 := Lib.hid (HB3.out.trans (hb4.mono HB3.out.size))
  have HP4 := Lib.hid (HP3.out.after hb4)
  have hy5 := HY4.out.below hb4
  have hn5 := ho5.strs
  have HY5 := Lib.hid hy5
  have HN5 := Lib.hid hn5
  clear hb4 ho5 HNT HB3 HP3 HP4 HY4 hy5 hn5
  rw [HN.out, HM.out]
  rcases HF.out with ⟨rfl, rfl, hw0, hl0⟩ | ⟨rfl, rfl, hsub, hlong, hor⟩
  · obtain rfl : n = 0 := by rw [← HN.out, hw0]; rfl
    obtain rfl : m = 0 := by rw [← HM.out, hl0]; rfl
    clear HF hw0 hl0
    go_wp2_with fail
    go_ret
    exact ⟨rfl, HB4.out⟩
  · have HSUB := Lib.hid hsub
    have HLO := Lib.hid hlong
    have HOR := Lib.hid hor
    have HCY : Hid (∀ k s, wy[k]? = some s → ∃ bk o, p4 = some ⟨bk, o, none⟩ ∧ ∀ W, Below w4.heap.size w4 W → W.cell? ⟨bk, o + k, none⟩ = some (.string ⟨s.toArray⟩)) := Lib.hid fun k s hs => by
      obtain ⟨_, _, hv, -, ho⟩ := HY5.out
      injection hv with hp
      subst hp
      obtain ⟨bk, o, h1, h2, h3⟩ := ho.resolve_left (fun e => by rw [List.map_eq_nil_iff] at e; rw [e] at hs; cases hs)
      exact ⟨bk, o, h1, fun W hb => (hb.cell (p := ⟨bk, o + k, none⟩) h2).trans (h3 k _ (by rw [List.getElem?_map, hs]; rfl))⟩
    have HCN : Hid (∀ k s, nl[k]? = some s → ∃ bk o, p5 = some ⟨bk, o, none⟩ ∧ ∀ W, Below w4.heap.size w4 W → W.cell? ⟨bk, o + k, none⟩ = some (.string ⟨s.toArray⟩)) := Lib.hid fun k s hs => by
      obtain ⟨_, _, hv, -, ho⟩ := HN5.out
      injection hv with hp
      subst hp
      obtain ⟨bk, o, h1, h2, h3⟩ := ho.resolve_left (fun e => by rw [List.map_eq_nil_iff] at e; rw [e] at hs; cases hs)
      exact ⟨bk, o, h1, fun W hb => (hb.cell (p := ⟨bk, o + k, none⟩) h2).trans (h3 k _ (by rw [List.getElem?_map, hs]; rfl))⟩
    clear HF hsub hlong hor HY5 HN5
    go_wp2_with fail
    go_loopw [10, 11] (fun ai i wr => ∃ k a : Nat, i = .int .i64 k ∧ ai = .int .i64 a ∧ k ≤ n ∧ a ≤ m ∧ Aside ((wy.drop k).Sublist (nl.drop a)) ∧ Aside (Below w4.heap.size w4 wr)) (fun _ i _ => n - (RowKit.intOf i).toNat)
    case atStart => exact ⟨0, 0, rfl, rfl, Nat.zero_le _, Nat.zero_le _, HSUB.out, Below.refl _ _⟩
    case round =>
      obtain ⟨k, a, rfl, rfl, hk, ha, HS, HB⟩ := hrel
      by_cases hlt : k < n
      · obtain ⟨x, hx⟩ : ∃ x, wy[k]? = some x := ⟨_, List.getElem?_eq_getElem (by rw [HN.out]; exact hlt)⟩
        have hlx := fun h => HLO.out k x h hx
        have hdx : wy.drop k = x :: wy.drop (k + 1) := by
          rw [drop_at (by rw [HN.out]; exact hlt)]
          rw [List.getElem?_eq_getElem (by rw [HN.out]; exact hlt)] at hx
          rw [Option.some.inj hx]
        obtain ⟨bk, o, rfl, hcx⟩ := HCY.out k x hx
        have HCX := Lib.hid hcx
        have e1 := hcx wr HB.out
        have hs0 := HS.out
        rw [hdx] at hs0
        have HS0 := Lib.hid hs0
        have HDX := Lib.hid hdx
        obtain ⟨wo, hwo⟩ : ∃ wo : World, wo = wr := ⟨_, rfl⟩
        rw [← hwo] at e1 HB ⊢
        have g1 : (0 : Int) ≤ k := by omega
        have g2 : (k : Int) < n := by omega
        have hsz : (⟨x.toArray⟩ : ByteArray).size = x.length := rfl
        clear hcx hs0 hdx hx hwo HS
        obtain hk0 | hk0 : k = 0 ∨ 0 < k := by omega
        · have g3 : ¬ ((0 : Int) < k) := by omega
          have g3b : ¬ (0 < k) := by omega
          clear hk0
          go_wp2_with fail
          clear e1
          go_loopw [10] (fun ai wi => ∃ a : Nat, ai = .int .i64 a ∧ a ≤ m ∧ Aside ((x :: wy.drop (k + 1)).Sublist (nl.drop a)) ∧ Aside (Below w4.heap.size w4 wi)) (fun ai _ => m - (RowKit.intOf ai).toNat)
          case atStart => exact ⟨a, rfl, ha, HS0.out, HB.out⟩
          case round =>
            obtain ⟨a2, rfl, ha2, HS2, HB2⟩ := hrel
            have halt : a2 < m := by
              by_cases h : a2 < m
              · exact h
              · exfalso
                have h2 := HS2.out
                have h3 : nl.drop a2 = [] := List.drop_eq_nil_of_le (by rw [HM.out]; omega)
                rw [h3] at h2
                cases h2
            obtain ⟨y, hy⟩ : ∃ y, nl[a2]? = some y := ⟨_, List.getElem?_eq_getElem (by rw [HM.out]; exact halt)⟩
            have hdy : nl.drop a2 = y :: nl.drop (a2 + 1) := by
              rw [drop_at (by rw [HM.out]; exact halt)]
              rw [List.getElem?_eq_getElem (by rw [HM.out]; exact halt)] at hy
              rw [Option.some.inj hy]
            obtain ⟨bn, on, rfl, hcy⟩ := HCN.out a2 y hy
            have HCYY := Lib.hid hcy
            have hs2 := HS2.out
            rw [hdy] at hs2
            have g6 : (0 : Int) ≤ a2 := by omega
            have g7 : (a2 : Int) < m := by omega
            have HSW := Lib.hid (fun W (hb : Below w4.heap.size w4 W) => (show W.cell? ⟨bk, o + k, none⟩ = some (.string ⟨x.toArray⟩) ∧ W.cell? ⟨bn, on + a2, none⟩ = some (.string ⟨y.toArray⟩) from ⟨HCX.out W hb, HCYY.out W hb⟩))
            rcases sub_step hs2 with ⟨rfl, hs3⟩ | ⟨hne, hs3⟩
            · have HS3 := Lib.hid hs3
              clear hs2 hs3 hdy hy hcy
              go_wp2_with fail
              refine wp_region_held_drew (S := (fun W => W.cell? ⟨bk, o + k, none⟩ = some (.string ⟨x.toArray⟩) ∧ W.cell? ⟨bn, on + a2, none⟩ = some (.string ⟨x.toArray⟩))) (by kernel_rfl) (HSW.out _ HB2.out.drew) (fun hHeld => ?_)
              refine wpAnyH_take (i := 0) (v := ?_) rfl (by kernel_rfl) (by kernel_rfl) (by kernel_rfl) (fun _ _ _ h => h) (.inl ⟨by rfl, ?_⟩) (by assumption) ?_
              rotate_left 1
              · intro w0 hSw
                go_simp <;> with_reducible rfl
              try simp only [Act.put, List.getElem_toArray, List.getElem_cons_zero, List.setIfInBounds_toArray, List.set_cons_zero, List.set_cons_succ]
              refine wpAnyH_take (i := 1) (v := ?_) rfl (by kernel_rfl) (by kernel_rfl) (by kernel_rfl) (fun _ _ _ h => h) (.inl ⟨by rfl, ?_⟩) (by assumption) ?_
              rotate_left 1
              · intro w0 hSw
                go_simp <;> with_reducible rfl
              try simp only [Act.put, List.getElem_toArray, List.getElem_cons_zero, List.getElem_cons_succ, List.setIfInBounds_toArray, List.set_cons_zero, List.set_cons_succ]
              refine wpAnyH_take (i := 2) (v := ?_) rfl (by kernel_rfl) (by kernel_rfl) (by kernel_rfl) (fun _ _ _ h => h) (.inl ⟨by rfl, ?_⟩) (by assumption) ?_
              rotate_left 1
              · intro w0 hSw
                go_simp <;> with_reducible rfl
              try simp only [Act.put, List.getElem_toArray, List.getElem_cons_zero, List.getElem_cons_succ, List.setIfInBounds_toArray, List.set_cons_zero, List.set_cons_succ]
              refine wpAnyH_take (i := 3) (v := ?_) rfl (by kernel_rfl) (by kernel_rfl) (by kernel_rfl) (fun _ _ _ h => h) (.inl ⟨by rfl, ?_⟩) (by assumption) ?_
              rotate_left 1
              · intro w0 hSw
                go_simp <;> with_reducible rfl
              try simp only [Act.put, List.getElem_toArray, List.getElem_cons_zero, List.getElem_cons_succ, List.setIfInBounds_toArray, List.set_cons_zero, List.set_cons_succ]
              refine wpAnyH_take (i := 4) (v := ?_) rfl (by kernel_rfl) (by kernel_rfl) (by kernel_rfl) (fun _ _ _ h => h) (.inl ⟨by rfl, ?_⟩) (by assumption) ?_
              rotate_left 1
              · intro w0 hSw
                go_simp <;> with_reducible rfl
              try simp only [Act.put, List.getElem_toArray, List.getElem_cons_zero, List.getElem_cons_succ, List.setIfInBounds_toArray, List.set_cons_zero, List.set_cons_succ]
              refine wpAnyH_take (i := 5) (v := ?_) rfl (by kernel_rfl) (by kernel_rfl) (by kernel_rfl) (fun _ _ _ h => h) (.inl ⟨by rfl, ?_⟩) (by assumption) ?_
              rotate_left 1
              · intro w0 hSw
                go_simp <;> with_reducible rfl
              try simp only [Act.put, List.getElem_toArray, List.getElem_cons_zero, List.getElem_cons_succ, List.setIfInBounds_toArray, List.set_cons_zero, List.set_cons_succ]
              refine wpAnyH_take (i := 6) (v := ?_) rfl (by kernel_rfl) (by kernel_rfl) (by kernel_rfl) (fun _ _ _ h => h) (.inl ⟨by rfl, ?_⟩) (by assumption) ?_
              rotate_left 1
              · intro w0 hSw
                go_simp <;> with_reducible rfl
              try simp only [Act.put, List.getElem_toArray, List.getElem_cons_zero, List.getElem_cons_succ, List.setIfInBounds_toArray, List.set_cons_zero, List.set_cons_succ]
              refine wpAnyH_take (i := 7) (v := ?_) rfl (by kernel_rfl) (by kernel_rfl) (by kernel_rfl) (fun _ _ _ h => h) (.inl ⟨by rfl, ?_⟩) (by assumption) ?_
              rotate_left 1
              · intro w0 hSw
                go_simp <;> with_reducible rfl
              try simp only [Act.put, List.getElem_toArray, List.getElem_cons_zero, List.getElem_cons_succ, List.setIfInBounds_toArray, List.set_cons_zero, List.set_cons_succ]
              refine wpAnyH_take (i := 8) (v := ?_) rfl (by kernel_rfl) (by kernel_rfl) (by kernel_rfl) (fun _ _ _ h => h) (.inl ⟨by rfl, ?_⟩) (by assumption) ?_
              rotate_left 1
              · intro w0 hSw
                obtain ⟨z0, z1⟩ := hSw
                go_simp <;> with_reducible rfl
              try simp only [Act.put, List.getElem_toArray, List.getElem_cons_zero, List.getElem_cons_succ, List.setIfInBounds_toArray, List.set_cons_zero, List.set_cons_succ]
              refine wpAnyH_take (i := 9) (v := ?_) rfl (by kernel_rfl) (by kernel_rfl) (by kernel_rfl) (fun _ _ _ h => h) (.inl ⟨by rfl, ?_⟩) (by assumption) ?_
              rotate_left 1
              · intro w0 hSw
                go_simp <;> with_reducible rfl
              try simp only [Act.put, List.getElem_toArray, List.getElem_cons_zero, List.getElem_cons_succ, List.setIfInBounds_toArray, List.set_cons_zero, List.set_cons_succ]
              refine wpAnyH_take (i := 10) (v := ?_) rfl (by kernel_rfl) (by kernel_rfl) (by kernel_rfl) (fun _ _ _ h => h) (.inl ⟨by rfl, ?_⟩) (by assumption) ?_
              rotate_left 1
              · intro w0 hSw
                go_simp <;> with_reducible rfl
              try simp only [Act.put, List.getElem_toArray, List.getElem_cons_zero, List.getElem_cons_succ, List.setIfInBounds_toArray, List.set_cons_zero, List.set_cons_succ]
              refine wpAnyH_take (i := 11) (v := ?_) rfl (by kernel_rfl) (by kernel_rfl) (by kernel_rfl) (fun _ _ _ h => h) (.inl ⟨by rfl, ?_⟩) (by assumption) ?_
              rotate_left 1
              · intro w0 hSw
                go_simp <;> with_reducible rfl
              try simp only [Act.put, List.getElem_toArray, List.getElem_cons_zero, List.getElem_cons_succ, List.setIfInBounds_toArray, List.set_cons_zero, List.set_cons_succ]
              refine wpAnyH_take (i := 12) (v := ?_) rfl (by kernel_rfl) (by kernel_rfl) (by kernel_rfl) (fun _ _ _ h => h) (.inl ⟨by rfl, ?_⟩) (by assumption) ?_
              rotate_left 1
              · intro w0 hSw
                obtain ⟨z0, z1⟩ := hSw
                go_simp <;> with_reducible rfl
              try simp only [Act.put, List.getElem_toArray, List.getElem_cons_zero, List.getElem_cons_succ, List.setIfInBounds_toArray, List.set_cons_zero, List.set_cons_succ]
              refine wpAnyH_take (i := 13) (v := ?_) rfl (by kernel_rfl) (by kernel_rfl) (by kernel_rfl) (fun _ _ _ h => h) (.inl ⟨by rfl, ?_⟩) (by assumption) ?_
              rotate_left 1
              · intro w0 hSw
                go_simp <;> with_reducible rfl
              try simp only [Act.put, List.getElem_toArray, List.getElem_cons_zero, List.getElem_cons_succ, List.setIfInBounds_toArray, List.set_cons_zero, List.set_cons_succ]
              refine wpAnyH_take (i := 14) (v := ?_) rfl (by kernel_rfl) (by kernel_rfl) (by kernel_rfl) (fun _ _ _ h => h) (.inl ⟨by rfl, ?_⟩) (by assumption) ?_
              rotate_left 1
              · intro w0 hSw
                go_simp <;> with_reducible rfl
              try simp only [Act.put, List.getElem_toArray, List.getElem_cons_zero, List.getElem_cons_succ, List.setIfInBounds_toArray, List.set_cons_zero, List.set_cons_succ]
              refine wpAnyH_done (by kernel_rfl) ?_ 0
              go_wp2_with fail
              go_roundw
              case rel => exact ⟨k + 1, a2 + 1, by go_num, by go_num, by omega, by omega, HS3.out, HB2.out.drew⟩
              case measure => simp [RowKit.intOf]; omega
            · have q1 : (y == x) = false := by rw [beq_eq_false_iff_ne]; exact fun e => hne e.symm
              have q2 : (⟨y.toArray⟩ : ByteArray) ≠ ⟨x.toArray⟩ := fun e => hne (by have := congrArg (fun s : ByteArray => s.data.toList) e; simpa using this.symm)
              have HS3 := Lib.hid hs3
              clear hs2 hs3 hdy hy hcy
              go_wp2_with fail
              refine wp_region_held_drew (S := (fun W => W.cell? ⟨bk, o + k, none⟩ = some (.string ⟨x.toArray⟩) ∧ W.cell? ⟨bn, on + a2, none⟩ = some (.string ⟨y.toArray⟩))) (by kernel_rfl) (HSW.out _ HB2.out.drew) (fun hHeld => ?_)
              refine wpAnyH_take (i := 0) (v := ?_) rfl (by kernel_rfl) (by kernel_rfl) (by kernel_rfl) (fun _ _ _ h => h) (.inl ⟨by rfl, ?_⟩) (by assumption) ?_
              rotate_left 1
              · intro w0 hSw
                go_simp <;> with_reducible rfl
              try simp only [Act.put, List.getElem_toArray, List.getElem_cons_zero, List.setIfInBounds_toArray, List.set_cons_zero, List.set_cons_succ]
              refine wpAnyH_take (i := 1) (v := ?_) rfl (by kernel_rfl) (by kernel_rfl) (by kernel_rfl) (fun _ _ _ h => h) (.inl ⟨by rfl, ?_⟩) (by assumption) ?_
              rotate_left 1
              · intro w0 hSw
                go_simp <;> with_reducible rfl
              try simp only [Act.put, List.getElem_toArray, List.getElem_cons_zero, List.getElem_cons_succ, List.setIfInBounds_toArray, List.set_cons_zero, List.set_cons_succ]
              refine wpAnyH_take (i := 2) (v := ?_) rfl (by kernel_rfl) (by kernel_rfl) (by kernel_rfl) (fun _ _ _ h => h) (.inl ⟨by rfl, ?_⟩) (by assumption) ?_
              rotate_left 1
              · intro w0 hSw
                go_simp <;> with_reducible rfl
              try simp only [Act.put, List.getElem_toArray, List.getElem_cons_zero, List.getElem_cons_succ, List.setIfInBounds_toArray, List.set_cons_zero, List.set_cons_succ]
              refine wpAnyH_take (i := 3) (v := ?_) rfl (by kernel_rfl) (by kernel_rfl) (by kernel_rfl) (fun _ _ _ h => h) (.inl ⟨by rfl, ?_⟩) (by assumption) ?_
              rotate_left 1
              · intro w0 hSw
                go_simp <;> with_reducible rfl
              try simp only [Act.put, List.getElem_toArray, List.getElem_cons_zero, List.getElem_cons_succ, List.setIfInBounds_toArray, List.set_cons_zero, List.set_cons_succ]
              refine wpAnyH_take (i := 4) (v := ?_) rfl (by kernel_rfl) (by kernel_rfl) (by kernel_rfl) (fun _ _ _ h => h) (.inl ⟨by rfl, ?_⟩) (by assumption) ?_
              rotate_left 1
              · intro w0 hSw
                go_simp <;> with_reducible rfl
              try simp only [Act.put, List.getElem_toArray, List.getElem_cons_zero, List.getElem_cons_succ, List.setIfInBounds_toArray, List.set_cons_zero, List.set_cons_succ]
              refine wpAnyH_take (i := 5) (v := ?_) rfl (by kernel_rfl) (by kernel_rfl) (by kernel_rfl) (fun _ _ _ h => h) (.inl ⟨by rfl, ?_⟩) (by assumption) ?_
              rotate_left 1
              · intro w0 hSw
                go_simp <;> with_reducible rfl
              try simp only [Act.put, List.getElem_toArray, List.getElem_cons_zero, List.getElem_cons_succ, List.setIfInBounds_toArray, List.set_cons_zero, List.set_cons_succ]
              refine wpAnyH_take (i := 6) (v := ?_) rfl (by kernel_rfl) (by kernel_rfl) (by kernel_rfl) (fun _ _ _ h => h) (.inl ⟨by rfl, ?_⟩) (by assumption) ?_
              rotate_left 1
              · intro w0 hSw
                go_simp <;> with_reducible rfl
              try simp only [Act.put, List.getElem_toArray, List.getElem_cons_zero, List.getElem_cons_succ, List.setIfInBounds_toArray, List.set_cons_zero, List.set_cons_succ]
              refine wpAnyH_take (i := 7) (v := ?_) rfl (by kernel_rfl) (by kernel_rfl) (by kernel_rfl) (fun _ _ _ h => h) (.inl ⟨by rfl, ?_⟩) (by assumption) ?_
              rotate_left 1
              · intro w0 hSw
                go_simp <;> with_reducible rfl
              try simp only [Act.put, List.getElem_toArray, List.getElem_cons_zero, List.getElem_cons_succ, List.setIfInBounds_toArray, List.set_cons_zero, List.set_cons_succ]
              refine wpAnyH_take (i := 8) (v := ?_) rfl (by kernel_rfl) (by kernel_rfl) (by kernel_rfl) (fun _ _ _ h => h) (.inl ⟨by rfl, ?_⟩) (by assumption) ?_
              rotate_left 1
              · intro w0 hSw
                obtain ⟨z0, z1⟩ := hSw
                go_simp <;> with_reducible rfl
              try simp only [Act.put, List.getElem_toArray, List.getElem_cons_zero, List.getElem_cons_succ, List.setIfInBounds_toArray, List.set_cons_zero, List.set_cons_succ]
              refine wpAnyH_take (i := 9) (v := ?_) rfl (by kernel_rfl) (by kernel_rfl) (by kernel_rfl) (fun _ _ _ h => h) (.inl ⟨by rfl, ?_⟩) (by assumption) ?_
              rotate_left 1
              · intro w0 hSw
                go_simp <;> with_reducible rfl
              try simp only [Act.put, List.getElem_toArray, List.getElem_cons_zero, List.getElem_cons_succ, List.setIfInBounds_toArray, List.set_cons_zero, List.set_cons_succ]
              refine wpAnyH_take (i := 10) (v := ?_) rfl (by kernel_rfl) (by kernel_rfl) (by kernel_rfl) (fun _ _ _ h => h) (.inl ⟨by rfl, ?_⟩) (by assumption) ?_
              rotate_left 1
              · intro w0 hSw
                go_simp <;> with_reducible rfl
              try simp only [Act.put, List.getElem_toArray, List.getElem_cons_zero, List.getElem_cons_succ, List.setIfInBounds_toArray, List.set_cons_zero, List.set_cons_succ]
              refine wpAnyH_take (i := 11) (v := ?_) rfl (by kernel_rfl) (by kernel_rfl) (by kernel_rfl) (fun _ _ _ h => h) (.inl ⟨by rfl, ?_⟩) (by assumption) ?_
              rotate_left 1
              · intro w0 hSw
                go_simp <;> with_reducible rfl
              try simp only [Act.put, List.getElem_toArray, List.getElem_cons_zero, List.getElem_cons_succ, List.setIfInBounds_toArray, List.set_cons_zero, List.set_cons_succ]
              refine wpAnyH_take (i := 12) (v := ?_) rfl (by kernel_rfl) (by kernel_rfl) (by kernel_rfl) (fun _ _ _ h => h) (.inl ⟨by rfl, ?_⟩) (by assumption) ?_
              rotate_left 1
              · intro w0 hSw
                obtain ⟨z0, z1⟩ := hSw
                go_simp <;> with_reducible rfl
              try simp only [Act.put, List.getElem_toArray, List.getElem_cons_zero, List.getElem_cons_succ, List.setIfInBounds_toArray, List.set_cons_zero, List.set_cons_succ]
              refine wpAnyH_take (i := 13) (v := ?_) rfl (by kernel_rfl) (by kernel_rfl) (by kernel_rfl) (fun _ _ _ h => h) (.inl ⟨by rfl, ?_⟩) (by assumption) ?_
              rotate_left 1
              · intro w0 hSw
                go_simp <;> with_reducible rfl
              try simp only [Act.put, List.getElem_toArray, List.getElem_cons_zero, List.getElem_cons_succ, List.setIfInBounds_toArray, List.set_cons_zero, List.set_cons_succ]
              refine wpAnyH_take (i := 14) (v := ?_) rfl (by kernel_rfl) (by kernel_rfl) (by kernel_rfl) (fun _ _ _ h => h) (.inl ⟨by rfl, ?_⟩) (by assumption) ?_
              rotate_left 1
              · intro w0 hSw
                go_simp <;> with_reducible rfl
              try simp only [Act.put, List.getElem_toArray, List.getElem_cons_zero, List.getElem_cons_succ, List.setIfInBounds_toArray, List.set_cons_zero, List.set_cons_succ]
              refine wpAnyH_done (by kernel_rfl) ?_ 0
              go_wp2_with fail
              go_roundw
              case rel => exact ⟨a2 + 1, by go_num, by omega, HS3.out, HB2.out.drew⟩
              case measure => simp [RowKit.intOf]; omega
        · have g3 : (0 : Int) < k := by omega
          have g4 : ¬ ((x.length : Int) < 32) := by have := hlx hk0; omega
          have g5 : decide ((x.length : Int) < 32) = false := decide_eq_false g4
          go_wp2_with fail
          clear e1
          go_loopw [10] (fun ai wi => ∃ a : Nat, ai = .int .i64 a ∧ a ≤ m ∧ Aside ((x :: wy.drop (k + 1)).Sublist (nl.drop a)) ∧ Aside (Below w4.heap.size w4 wi)) (fun ai _ => m - (RowKit.intOf ai).toNat)
          case atStart => exact ⟨a, rfl, ha, HS0.out, HB.out⟩
          case round =>
            obtain ⟨a2, rfl, ha2, HS2, HB2⟩ := hrel
            have halt : a2 < m := by
              by_cases h : a2 < m
              · exact h
              · exfalso
                have h2 := HS2.out
                have h3 : nl.drop a2 = [] := List.drop_eq_nil_of_le (by rw [HM.out]; omega)
                rw [h3] at h2
                cases h2
            obtain ⟨y, hy⟩ : ∃ y, nl[a2]? = some y := ⟨_, List.getElem?_eq_getElem (by rw [HM.out]; exact halt)⟩
            have hdy : nl.drop a2 = y :: nl.drop (a2 + 1) := by
              rw [drop_at (by rw [HM.out]; exact halt)]
              rw [List.getElem?_eq_getElem (by rw [HM.out]; exact halt)] at hy
              rw [Option.some.inj hy]
            obtain ⟨bn, on, rfl, hcy⟩ := HCN.out a2 y hy
            have HCYY := Lib.hid hcy
            have hs2 := HS2.out
            rw [hdy] at hs2
            have g6 : (0 : Int) ≤ a2 := by omega
            have g7 : (a2 : Int) < m := by omega
            have HSW := Lib.hid (fun W (hb : Below w4.heap.size w4 W) => (show W.cell? ⟨bk, o + k, none⟩ = some (.string ⟨x.toArray⟩) ∧ W.cell? ⟨bn, on + a2, none⟩ = some (.string ⟨y.toArray⟩) from ⟨HCX.out W hb, HCYY.out W hb⟩))
            rcases sub_step hs2 with ⟨rfl, hs3⟩ | ⟨hne, hs3⟩
            · have HS3 := Lib.hid hs3
              clear hs2 hs3 hdy hy hcy
              go_wp2_with fail
              refine wp_region_held_drew (S := (fun W => W.cell? ⟨bk, o + k, none⟩ = some (.string ⟨x.toArray⟩) ∧ W.cell? ⟨bn, on + a2, none⟩ = some (.string ⟨x.toArray⟩))) (by kernel_rfl) (HSW.out _ HB2.out.drew) (fun hHeld => ?_)
              refine wpAnyH_take (i := 0) (v := ?_) rfl (by kernel_rfl) (by kernel_rfl) (by kernel_rfl) (fun _ _ _ h => h) (.inl ⟨by rfl, ?_⟩) (by assumption) ?_
              rotate_left 1
              · intro w0 hSw
                go_simp <;> with_reducible rfl
              try simp only [Act.put, List.getElem_toArray, List.getElem_cons_zero, List.setIfInBounds_toArray, List.set_cons_zero, List.set_cons_succ]
              refine wpAnyH_take (i := 1) (v := ?_) rfl (by kernel_rfl) (by kernel_rfl) (by kernel_rfl) (fun _ _ _ h => h) (.inl ⟨by rfl, ?_⟩) (by assumption) ?_
              rotate_left 1
              · intro w0 hSw
                go_simp <;> with_reducible rfl
              try simp only [Act.put, List.getElem_toArray, List.getElem_cons_zero, List.getElem_cons_succ, List.setIfInBounds_toArray, List.set_cons_zero, List.set_cons_succ]
              refine wpAnyH_take (i := 2) (v := ?_) rfl (by kernel_rfl) (by kernel_rfl) (by kernel_rfl) (fun _ _ _ h => h) (.inl ⟨by rfl, ?_⟩) (by assumption) ?_
              rotate_left 1
              · intro w0 hSw
                go_simp <;> with_reducible rfl
              try simp only [Act.put, List.getElem_toArray, List.getElem_cons_zero, List.getElem_cons_succ, List.setIfInBounds_toArray, List.set_cons_zero, List.set_cons_succ]
              refine wpAnyH_take (i := 3) (v := ?_) rfl (by kernel_rfl) (by kernel_rfl) (by kernel_rfl) (fun _ _ _ h => h) (.inl ⟨by rfl, ?_⟩) (by assumption) ?_
              rotate_left 1
              · intro w0 hSw
                go_simp <;> with_reducible rfl
              try simp only [Act.put, List.getElem_toArray, List.getElem_cons_zero, List.getElem_cons_succ, List.setIfInBounds_toArray, List.set_cons_zero, List.set_cons_succ]
              refine wpAnyH_take (i := 4) (v := ?_) rfl (by kernel_rfl) (by kernel_rfl) (by kernel_rfl) (fun _ _ _ h => h) (.inl ⟨by rfl, ?_⟩) (by assumption) ?_
              rotate_left 1
              · intro w0 hSw
                go_simp <;> with_reducible rfl
              try simp only [Act.put, List.getElem_toArray, List.getElem_cons_zero, List.getElem_cons_succ, List.setIfInBounds_toArray, List.set_cons_zero, List.set_cons_succ]
              refine wpAnyH_take (i := 5) (v := ?_) rfl (by kernel_rfl) (by kernel_rfl) (by kernel_rfl) (fun _ _ _ h => h) (.inl ⟨by rfl, ?_⟩) (by assumption) ?_
              rotate_left 1
              · intro w0 hSw
                go_simp <;> with_reducible rfl
              try simp only [Act.put, List.getElem_toArray, List.getElem_cons_zero, List.getElem_cons_succ, List.setIfInBounds_toArray, List.set_cons_zero, List.set_cons_succ]
              refine wpAnyH_take (i := 6) (v := ?_) rfl (by kernel_rfl) (by kernel_rfl) (by kernel_rfl) (fun _ _ _ h => h) (.inl ⟨by rfl, ?_⟩) (by assumption) ?_
              rotate_left 1
              · intro w0 hSw
                go_simp <;> with_reducible rfl
              try simp only [Act.put, List.getElem_toArray, List.getElem_cons_zero, List.getElem_cons_succ, List.setIfInBounds_toArray, List.set_cons_zero, List.set_cons_succ]
              refine wpAnyH_take (i := 7) (v := ?_) rfl (by kernel_rfl) (by kernel_rfl) (by kernel_rfl) (fun _ _ _ h => h) (.inl ⟨by rfl, ?_⟩) (by assumption) ?_
              rotate_left 1
              · intro w0 hSw
                go_simp <;> with_reducible rfl
              try simp only [Act.put, List.getElem_toArray, List.getElem_cons_zero, List.getElem_cons_succ, List.setIfInBounds_toArray, List.set_cons_zero, List.set_cons_succ]
              refine wpAnyH_take (i := 8) (v := ?_) rfl (by kernel_rfl) (by kernel_rfl) (by kernel_rfl) (fun _ _ _ h => h) (.inl ⟨by rfl, ?_⟩) (by assumption) ?_
              rotate_left 1
              · intro w0 hSw
                obtain ⟨z0, z1⟩ := hSw
                go_simp <;> with_reducible rfl
              try simp only [Act.put, List.getElem_toArray, List.getElem_cons_zero, List.getElem_cons_succ, List.setIfInBounds_toArray, List.set_cons_zero, List.set_cons_succ]
              refine wpAnyH_take (i := 9) (v := ?_) rfl (by kernel_rfl) (by kernel_rfl) (by kernel_rfl) (fun _ _ _ h => h) (.inl ⟨by rfl, ?_⟩) (by assumption) ?_
              rotate_left 1
              · intro w0 hSw
                go_simp <;> with_reducible rfl
              try simp only [Act.put, List.getElem_toArray, List.getElem_cons_zero, List.getElem_cons_succ, List.setIfInBounds_toArray, List.set_cons_zero, List.set_cons_succ]
              refine wpAnyH_take (i := 10) (v := ?_) rfl (by kernel_rfl) (by kernel_rfl) (by kernel_rfl) (fun _ _ _ h => h) (.inl ⟨by rfl, ?_⟩) (by assumption) ?_
              rotate_left 1
              · intro w0 hSw
                go_simp <;> with_reducible rfl
              try simp only [Act.put, List.getElem_toArray, List.getElem_cons_zero, List.getElem_cons_succ, List.setIfInBounds_toArray, List.set_cons_zero, List.set_cons_succ]
              refine wpAnyH_take (i := 11) (v := ?_) rfl (by kernel_rfl) (by kernel_rfl) (by kernel_rfl) (fun _ _ _ h => h) (.inl ⟨by rfl, ?_⟩) (by assumption) ?_
              rotate_left 1
              · intro w0 hSw
                go_simp <;> with_reducible rfl
              try simp only [Act.put, List.getElem_toArray, List.getElem_cons_zero, List.getElem_cons_succ, List.setIfInBounds_toArray, List.set_cons_zero, List.set_cons_succ]
              refine wpAnyH_take (i := 12) (v := ?_) rfl (by kernel_rfl) (by kernel_rfl) (by kernel_rfl) (fun _ _ _ h => h) (.inl ⟨by rfl, ?_⟩) (by assumption) ?_
              rotate_left 1
              · intro w0 hSw
                obtain ⟨z0, z1⟩ := hSw
                go_simp <;> with_reducible rfl
              try simp only [Act.put, List.getElem_toArray, List.getElem_cons_zero, List.getElem_cons_succ, List.setIfInBounds_toArray, List.set_cons_zero, List.set_cons_succ]
              refine wpAnyH_take (i := 13) (v := ?_) rfl (by kernel_rfl) (by kernel_rfl) (by kernel_rfl) (fun _ _ _ h => h) (.inl ⟨by rfl, ?_⟩) (by assumption) ?_
              rotate_left 1
              · intro w0 hSw
                go_simp <;> with_reducible rfl
              try simp only [Act.put, List.getElem_toArray, List.getElem_cons_zero, List.getElem_cons_succ, List.setIfInBounds_toArray, List.set_cons_zero, List.set_cons_succ]
              refine wpAnyH_take (i := 14) (v := ?_) rfl (by kernel_rfl) (by kernel_rfl) (by kernel_rfl) (fun _ _ _ h => h) (.inl ⟨by rfl, ?_⟩) (by assumption) ?_
              rotate_left 1
              · intro w0 hSw
                go_simp <;> with_reducible rfl
              try simp only [Act.put, List.getElem_toArray, List.getElem_cons_zero, List.getElem_cons_succ, List.setIfInBounds_toArray, List.set_cons_zero, List.set_cons_succ]
              refine wpAnyH_done (by kernel_rfl) ?_ 0
              go_wp2_with fail
              go_roundw
              case rel => exact ⟨k + 1, a2 + 1, by go_num, by go_num, by omega, by omega, HS3.out, HB2.out.drew⟩
              case measure => simp [RowKit.intOf]; omega
            · have q1 : (y == x) = false := by rw [beq_eq_false_iff_ne]; exact fun e => hne e.symm
              have q2 : (⟨y.toArray⟩ : ByteArray) ≠ ⟨x.toArray⟩ := fun e => hne (by have := congrArg (fun s : ByteArray => s.data.toList) e; simpa using this.symm)
              have HS3 := Lib.hid hs3
              clear hs2 hs3 hdy hy hcy
              go_wp2_with fail
              refine wp_region_held_drew (S := (fun W => W.cell? ⟨bk, o + k, none⟩ = some (.string ⟨x.toArray⟩) ∧ W.cell? ⟨bn, on + a2, none⟩ = some (.string ⟨y.toArray⟩))) (by kernel_rfl) (HSW.out _ HB2.out.drew) (fun hHeld => ?_)
              refine wpAnyH_take (i := 0) (v := ?_) rfl (by kernel_rfl) (by kernel_rfl) (by kernel_rfl) (fun _ _ _ h => h) (.inl ⟨by rfl, ?_⟩) (by assumption) ?_
              rotate_left 1
              · intro w0 hSw
                go_simp <;> with_reducible rfl
              try simp only [Act.put, List.getElem_toArray, List.getElem_cons_zero, List.setIfInBounds_toArray, List.set_cons_zero, List.set_cons_succ]
              refine wpAnyH_take (i := 1) (v := ?_) rfl (by kernel_rfl) (by kernel_rfl) (by kernel_rfl) (fun _ _ _ h => h) (.inl ⟨by rfl, ?_⟩) (by assumption) ?_
              rotate_left 1
              · intro w0 hSw
                go_simp <;> with_reducible rfl
              try simp only [Act.put, List.getElem_toArray, List.getElem_cons_zero, List.getElem_cons_succ, List.setIfInBounds_toArray, List.set_cons_zero, List.set_cons_succ]
              refine wpAnyH_take (i := 2) (v := ?_) rfl (by kernel_rfl) (by kernel_rfl) (by kernel_rfl) (fun _ _ _ h => h) (.inl ⟨by rfl, ?_⟩) (by assumption) ?_
              rotate_left 1
              · intro w0 hSw
                go_simp <;> with_reducible rfl
              try simp only [Act.put, List.getElem_toArray, List.getElem_cons_zero, List.getElem_cons_succ, List.setIfInBounds_toArray, List.set_cons_zero, List.set_cons_succ]
              refine wpAnyH_take (i := 3) (v := ?_) rfl (by kernel_rfl) (by kernel_rfl) (by kernel_rfl) (fun _ _ _ h => h) (.inl ⟨by rfl, ?_⟩) (by assumption) ?_
              rotate_left 1
              · intro w0 hSw
                go_simp <;> with_reducible rfl
              try simp only [Act.put, List.getElem_toArray, List.getElem_cons_zero, List.getElem_cons_succ, List.setIfInBounds_toArray, List.set_cons_zero, List.set_cons_succ]
              refine wpAnyH_take (i := 4) (v := ?_) rfl (by kernel_rfl) (by kernel_rfl) (by kernel_rfl) (fun _ _ _ h => h) (.inl ⟨by rfl, ?_⟩) (by assumption) ?_
              rotate_left 1
              · intro w0 hSw
                go_simp <;> with_reducible rfl
              try simp only [Act.put, List.getElem_toArray, List.getElem_cons_zero, List.getElem_cons_succ, List.setIfInBounds_toArray, List.set_cons_zero, List.set_cons_succ]
              refine wpAnyH_take (i := 5) (v := ?_) rfl (by kernel_rfl) (by kernel_rfl) (by kernel_rfl) (fun _ _ _ h => h) (.inl ⟨by rfl, ?_⟩) (by assumption) ?_
              rotate_left 1
              · intro w0 hSw
                go_simp <;> with_reducible rfl
              try simp only [Act.put, List.getElem_toArray, List.getElem_cons_zero, List.getElem_cons_succ, List.setIfInBounds_toArray, List.set_cons_zero, List.set_cons_succ]
              refine wpAnyH_take (i := 6) (v := ?_) rfl (by kernel_rfl) (by kernel_rfl) (by kernel_rfl) (fun _ _ _ h => h) (.inl ⟨by rfl, ?_⟩) (by assumption) ?_
              rotate_left 1
              · intro w0 hSw
                go_simp <;> with_reducible rfl
              try simp only [Act.put, List.getElem_toArray, List.getElem_cons_zero, List.getElem_cons_succ, List.setIfInBounds_toArray, List.set_cons_zero, List.set_cons_succ]
              refine wpAnyH_take (i := 7) (v := ?_) rfl (by kernel_rfl) (by kernel_rfl) (by kernel_rfl) (fun _ _ _ h => h) (.inl ⟨by rfl, ?_⟩) (by assumption) ?_
              rotate_left 1
              · intro w0 hSw
                go_simp <;> with_reducible rfl
              try simp only [Act.put, List.getElem_toArray, List.getElem_cons_zero, List.getElem_cons_succ, List.setIfInBounds_toArray, List.set_cons_zero, List.set_cons_succ]
              refine wpAnyH_take (i := 8) (v := ?_) rfl (by kernel_rfl) (by kernel_rfl) (by kernel_rfl) (fun _ _ _ h => h) (.inl ⟨by rfl, ?_⟩) (by assumption) ?_
              rotate_left 1
              · intro w0 hSw
                obtain ⟨z0, z1⟩ := hSw
                go_simp <;> with_reducible rfl
              try simp only [Act.put, List.getElem_toArray, List.getElem_cons_zero, List.getElem_cons_succ, List.setIfInBounds_toArray, List.set_cons_zero, List.set_cons_succ]
              refine wpAnyH_take (i := 9) (v := ?_) rfl (by kernel_rfl) (by kernel_rfl) (by kernel_rfl) (fun _ _ _ h => h) (.inl ⟨by rfl, ?_⟩) (by assumption) ?_
              rotate_left 1
              · intro w0 hSw
                go_simp <;> with_reducible rfl
              try simp only [Act.put, List.getElem_toArray, List.getElem_cons_zero, List.getElem_cons_succ, List.setIfInBounds_toArray, List.set_cons_zero, List.set_cons_succ]
              refine wpAnyH_take (i := 10) (v := ?_) rfl (by kernel_rfl) (by kernel_rfl) (by kernel_rfl) (fun _ _ _ h => h) (.inl ⟨by rfl, ?_⟩) (by assumption) ?_
              rotate_left 1
              · intro w0 hSw
                go_simp <;> with_reducible rfl
              try simp only [Act.put, List.getElem_toArray, List.getElem_cons_zero, List.getElem_cons_succ, List.setIfInBounds_toArray, List.set_cons_zero, List.set_cons_succ]
              refine wpAnyH_take (i := 11) (v := ?_) rfl (by kernel_rfl) (by kernel_rfl) (by kernel_rfl) (fun _ _ _ h => h) (.inl ⟨by rfl, ?_⟩) (by assumption) ?_
              rotate_left 1
              · intro w0 hSw
                go_simp <;> with_reducible rfl
              try simp only [Act.put, List.getElem_toArray, List.getElem_cons_zero, List.getElem_cons_succ, List.setIfInBounds_toArray, List.set_cons_zero, List.set_cons_succ]
              refine wpAnyH_take (i := 12) (v := ?_) rfl (by kernel_rfl) (by kernel_rfl) (by kernel_rfl) (fun _ _ _ h => h) (.inl ⟨by rfl, ?_⟩) (by assumption) ?_
              rotate_left 1
              · intro w0 hSw
                obtain ⟨z0, z1⟩ := hSw
                go_simp <;> with_reducible rfl
              try simp only [Act.put, List.getElem_toArray, List.getElem_cons_zero, List.getElem_cons_succ, List.setIfInBounds_toArray, List.set_cons_zero, List.set_cons_succ]
              refine wpAnyH_take (i := 13) (v := ?_) rfl (by kernel_rfl) (by kernel_rfl) (by kernel_rfl) (fun _ _ _ h => h) (.inl ⟨by rfl, ?_⟩) (by assumption) ?_
              rotate_left 1
              · intro w0 hSw
                go_simp <;> with_reducible rfl
              try simp only [Act.put, List.getElem_toArray, List.getElem_cons_zero, List.getElem_cons_succ, List.setIfInBounds_toArray, List.set_cons_zero, List.set_cons_succ]
              refine wpAnyH_take (i := 14) (v := ?_) rfl (by kernel_rfl) (by kernel_rfl) (by kernel_rfl) (fun _ _ _ h => h) (.inl ⟨by rfl, ?_⟩) (by assumption) ?_
              rotate_left 1
              · intro w0 hSw
                go_simp <;> with_reducible rfl
              try simp only [Act.put, List.getElem_toArray, List.getElem_cons_zero, List.getElem_cons_succ, List.setIfInBounds_toArray, List.set_cons_zero, List.set_cons_succ]
              refine wpAnyH_done (by kernel_rfl) ?_ 0
              go_wp2_with fail
              go_roundw
              case rel => exact ⟨a2 + 1, by go_num, by omega, HS3.out, HB2.out.drew⟩
              case measure => simp [RowKit.intOf]; omega
      · have hmk : k = n := by omega
        subst hmk
        have hb := HB4.out.trans (HB.out.mono HB4.out.size)
        have HBE := Lib.hid hb
        clear hb
        rcases HOR.out with h0 | h0
        · obtain rfl : fl = 0 := by rw [← HFL.out, h0]
          go_wp2_with fail
          go_ret
          exact ⟨rfl, HBE.out⟩
        · have q1 : (0 : Int) < k := by rw [HN.out] at h0; omega
          have q2 : 0 < k := by omega
          obtain ⟨b9, hb9⟩ : ∃ b, ((fl : Int) == 0) = b := ⟨_, rfl⟩
          have hb8 : (fl = 0) ∨ ¬ (fl : Int) = 0 := by omega
          rcases hb8 with rfl | hb8
          · go_wp2_with fail
            go_ret
            exact ⟨rfl, HBE.out⟩
          · obtain rfl : b9 = false := by rw [← hb9]; simpa using hb8
            go_wp2_with fail
            go_ret
            exact ⟨rfl, HBE.out⟩
end Go.Proofs.YthicdhnjincflaaDoor

namespace Go.Proofs.YthicdhnjincflaaDoor
open Go.RowKit Go.Shelf Go.Lib
attribute [local go_sem] Oper.semAt_some
def withinP (ps qs : List PairD) : Bool := ps.all fun q => qs.contains q
theorem within_iff {ps qs : List PairD} : withinP ps qs = true ↔ ∀ q ∈ ps, q ∈ qs := by
  unfold withinP
  rw [List.all_eq_true]
  simp
theorem within_step {ps qs : List PairD} {k : Nat} {q : PairD} (h : ps[k]? = some q) : withinP (ps.drop k) qs = (qs.contains q && withinP (ps.drop (k + 1)) qs) := by
  obtain ⟨h1, h2⟩ := List.getElem?_eq_some_iff.1 h
  rw [List.drop_eq_getElem_cons h1, h2]
  rfl
theorem contains_step {qs : List PairD} {k : Nat} {q x : PairD} (h : qs[k]? = some q) : (qs.take (k + 1)).contains x = ((qs.take k).contains x || x == q) := by
  rw [List.take_add_one, h, Bool.eq_iff_iff]
  simp [List.contains_eq_mem, List.mem_append]
theorem pair_cases {x y : PairD} {a b a' b' : ByteArray} (h1 : (⟨x.1.toArray⟩ : ByteArray) = a) (h2 : (⟨x.2.toArray⟩ : ByteArray) = b) (h3 : (⟨y.1.toArray⟩ : ByteArray) = a') (h4 : (⟨y.2.toArray⟩ : ByteArray) = b') :
    ((x == y) = true ∧ (a.toList == a'.toList) = true ∧ (b.toList == b'.toList) = true) ∨ ((x == y) = false ∧ ((a.toList == a'.toList) = false ∨ ((a.toList == a'.toList) = true ∧ (b.toList == b'.toList) = false))) := by
  have e : ∀ l : List UInt8, (⟨l.toArray⟩ : ByteArray).toList = l := fun l => by rw [ByteArray.toList_eq]
  subst h1 h2 h3 h4
  rw [e, e, e, e]
  obtain ⟨x1, x2⟩ := x
  obtain ⟨y1, y2⟩ := y
  by_cases c1 : x1 = y1
  · subst c1
    by_cases c2 : x2 = y2
    · subst c2
      exact .inl ⟨by simp, by simp, by simp⟩
    · exact .inr ⟨by simp [c2], .inr ⟨by simp, by simp [c2]⟩⟩
  · exact .inr ⟨by simp [c1], .inl (by simp [c1])⟩
set_option maxRecDepth 100000 in
set_option maxHeartbeats 6400000 in
theorem within_any (ps qs : List PairD) (v v' : Value) (w : World) (hv : Pairs w v ps) (hv' : Pairs w v' qs) (hN : ps.length ≤ 1099511627775) (hM : qs.length ≤ 1099511627775) :
    Calls Tryd.prog 31 #[v, v'] w fun e w' => e = .returned (.bool (withinP ps qs)) ∧ Below w.heap.size w w' := by
  obtain ⟨p, c, rfl, hc, hcell⟩ := hv
  obtain ⟨p', c', rfl, hc', hcell'⟩ := hv'
  have HC := Lib.hid hcell
  have HC' := Lib.hid hcell'
  obtain ⟨n, hn⟩ : ∃ n, ps.length = n := ⟨_, rfl⟩
  obtain ⟨m, hm⟩ : ∃ n, qs.length = n := ⟨_, rfl⟩
  rw [hn] at hc hN ⊢
  rw [hm] at hc' hM ⊢
  have HN := Lib.hid hn
  have HM := Lib.hid hm
  obtain ⟨r, hr⟩ : ∃ r, withinP ps qs = r := ⟨_, rfl⟩
  rw [hr]
  have HR := Lib.hid hr
  clear hcell hcell' hn hm hr
  go_enter Tryd.func31, Tryd.ntmps31
  go_wp2_with fail
  go_loopw [5] (fun i wr => ∃ k : Nat, i = .int .i64 k ∧ k ≤ n ∧ Aside (withinP (ps.drop k) qs = r) ∧ Aside (Below w.heap.size w wr)) (fun i _ => n - (RowKit.intOf i).toNat)
  case atStart => exact ⟨0, rfl, Nat.zero_le _, HR.out, Below.refl _ _⟩
  case round =>
    obtain ⟨k, rfl, hk, HW, HB⟩ := hrel
    by_cases hlt : k < n
    · obtain ⟨x, hx⟩ : ∃ x, ps[k]? = some x := ⟨_, List.getElem?_eq_getElem (by rw [HN.out]; exact hlt)⟩
      obtain ⟨bk, o, rfl, hbk, hcl⟩ := HC.out.resolve_left (fun e => by have := HN.out; rw [e] at this; simp at this; omega)
      have hcx := hcl k x hx
      have hws := within_step (qs := qs) hx
      rw [HW.out] at hws
      have HWS := Lib.hid hws
      obtain ⟨ka, hka⟩ : ∃ s, (⟨x.1.toArray⟩ : ByteArray) = s := ⟨_, rfl⟩
      obtain ⟨va, hva⟩ : ∃ s, (⟨x.2.toArray⟩ : ByteArray) = s := ⟨_, rfl⟩
      rw [hka, hva] at hcx
      have HX := Lib.hid (fun W (hb : Below w.heap.size w W) => (show W.cell? ⟨bk, o + k * 2, none⟩ = some (.string ka) ∧ W.cell? ⟨bk, o + k * 2 + 1, none⟩ = some (.string va) from ⟨(hb.cell (p := ⟨bk, o + k * 2, none⟩) hbk).trans hcx.1, (hb.cell (p := ⟨bk, o + k * 2 + 1, none⟩) hbk).trans hcx.2⟩))
      have HKA := Lib.hid hka
      have HVA := Lib.hid hva
      have g1 : (0 : Int) ≤ k := by omega
      have g2 : (k : Int) < n := by omega
      obtain ⟨wo, hwo⟩ : ∃ wo : World, wo = wr := ⟨_, rfl⟩
      rw [← hwo] at HB ⊢
      clear hcl hcx hws hka hva hx hwo HW
      go_wp2_with fail
      go_loopw [6, 7] (fun mv kv wi => ∃ j : Nat, kv = .int .i64 j ∧ j ≤ m ∧ mv = .bool ((qs.take j).contains x) ∧ Aside (Below w.heap.size w wi)) (fun _ kv _ => m - (RowKit.intOf kv).toNat)
      case atStart => exact ⟨0, rfl, Nat.zero_le _, rfl, HB.out⟩
      case round =>
        obtain ⟨j, rfl, hj, rfl, HB2⟩ := hrel
        by_cases hjm : j < m
        · obtain ⟨y, hy⟩ : ∃ y, qs[j]? = some y := ⟨_, List.getElem?_eq_getElem (by rw [HM.out]; exact hjm)⟩
          obtain ⟨bj, oj, rfl, hbj, hcl⟩ := HC'.out.resolve_left (fun e => by have := HM.out; rw [e] at this; simp at this; omega)
          have hcy := hcl j y hy
          have hcs := contains_step (x := x) hy
          obtain ⟨kb, hkb⟩ : ∃ s, (⟨y.1.toArray⟩ : ByteArray) = s := ⟨_, rfl⟩
          obtain ⟨vb, hvb⟩ : ∃ s, (⟨y.2.toArray⟩ : ByteArray) = s := ⟨_, rfl⟩
          rw [hkb, hvb] at hcy
          have hpc := pair_cases HKA.out HVA.out hkb hvb
          have HXY := Lib.hid (fun W (hb : Below w.heap.size w W) => (show W.cell? ⟨bk, o + k * 2, none⟩ = some (.string ka) ∧ W.cell? ⟨bk, o + k * 2 + 1, none⟩ = some (.string va) ∧ W.cell? ⟨bj, oj + j * 2, none⟩ = some (.string kb) ∧ W.cell? ⟨bj, oj + j * 2 + 1, none⟩ = some (.string vb) from
            ⟨(HX.out W hb).1, (HX.out W hb).2, (hb.cell (p := ⟨bj, oj + j * 2, none⟩) hbj).trans hcy.1, (hb.cell (p := ⟨bj, oj + j * 2 + 1, none⟩) hbj).trans hcy.2⟩))
          have g3 : (0 : Int) ≤ j := by omega
          have g4 : (j : Int) < m := by omega
          obtain ⟨mt, hmt⟩ : ∃ b, (qs.take j).contains x = b := ⟨_, rfl⟩
          obtain ⟨eq, heq⟩ : ∃ b, (x == y) = b := ⟨_, rfl⟩
          rw [hmt, heq] at hcs
          rw [hmt]
          rw [heq] at hpc
          have HCS := Lib.hid hcs
          clear hcl hcy hcs hkb hvb hmt heq hy
          cases mt with
          | true =>
            clear hpc
            go_wp2_with fail
            refine wp_region_held_drew (S := (fun W => W.cell? ⟨bk, o + k * 2, none⟩ = some (.string ka) ∧ W.cell? ⟨bk, o + k * 2 + 1, none⟩ = some (.string va) ∧ W.cell? ⟨bj, oj + j * 2, none⟩ = some (.string kb) ∧ W.cell? ⟨bj, oj + j * 2 + 1, none⟩ = some (.string vb))) (by kernel_rfl) (HXY.out _ HB2.out.drew) (fun hHeld => ?_)
            refine wpAnyH_take (i := 0) (v := ?_) rfl (by kernel_rfl) (by kernel_rfl) (by kernel_rfl) (fun _ _ _ h => h) (.inl ⟨by rfl, ?_⟩) (by assumption) ?_
            rotate_left 1
            · intro w0 hSw
              go_simp <;> with_reducible rfl
            try simp only [Act.put, List.getElem_toArray, List.getElem_cons_zero, List.setIfInBounds_toArray, List.set_cons_zero, List.set_cons_succ]
            refine wpAnyH_take (i := 1) (v := ?_) rfl (by kernel_rfl) (by kernel_rfl) (by kernel_rfl) (fun _ _ _ h => h) (.inl ⟨by rfl, ?_⟩) (by assumption) ?_
            rotate_left 1
            · intro w0 hSw
              go_simp <;> with_reducible rfl
            try simp only [Act.put, List.getElem_toArray, List.getElem_cons_zero, List.getElem_cons_succ, List.setIfInBounds_toArray, List.set_cons_zero, List.set_cons_succ]
            refine wpAnyH_take (i := 2) (v := undef) rfl (by kernel_rfl) (by kernel_rfl) (by kernel_rfl) (fun _ _ _ h => h) (.inr ⟨by rfl, rfl⟩) (by assumption) ?_
            try simp only [Act.put, List.getElem_toArray, List.getElem_cons_zero, List.getElem_cons_succ, List.setIfInBounds_toArray, List.set_cons_zero, List.set_cons_succ]
            refine wpAnyH_take (i := 3) (v := undef) rfl (by kernel_rfl) (by kernel_rfl) (by kernel_rfl) (fun _ _ _ h => h) (.inr ⟨by rfl, rfl⟩) (by assumption) ?_
            try simp only [Act.put, List.getElem_toArray, List.getElem_cons_zero, List.getElem_cons_succ, List.setIfInBounds_toArray, List.set_cons_zero, List.set_cons_succ]
            refine wpAnyH_take (i := 4) (v := undef) rfl (by kernel_rfl) (by kernel_rfl) (by kernel_rfl) (fun _ _ _ h => h) (.inr ⟨by rfl, rfl⟩) (by assumption) ?_
            try simp only [Act.put, List.getElem_toArray, List.getElem_cons_zero, List.getElem_cons_succ, List.setIfInBounds_toArray, List.set_cons_zero, List.set_cons_succ]
            refine wpAnyH_take (i := 5) (v := undef) rfl (by kernel_rfl) (by kernel_rfl) (by kernel_rfl) (fun _ _ _ h => h) (.inr ⟨by rfl, rfl⟩) (by assumption) ?_
            try simp only [Act.put, List.getElem_toArray, List.getElem_cons_zero, List.getElem_cons_succ, List.setIfInBounds_toArray, List.set_cons_zero, List.set_cons_succ]
            refine wpAnyH_take (i := 6) (v := undef) rfl (by kernel_rfl) (by kernel_rfl) (by kernel_rfl) (fun _ _ _ h => h) (.inr ⟨by rfl, rfl⟩) (by assumption) ?_
            try simp only [Act.put, List.getElem_toArray, List.getElem_cons_zero, List.getElem_cons_succ, List.setIfInBounds_toArray, List.set_cons_zero, List.set_cons_succ]
            refine wpAnyH_take (i := 7) (v := undef) rfl (by kernel_rfl) (by kernel_rfl) (by kernel_rfl) (fun _ _ _ h => h) (.inr ⟨by rfl, rfl⟩) (by assumption) ?_
            try simp only [Act.put, List.getElem_toArray, List.getElem_cons_zero, List.getElem_cons_succ, List.setIfInBounds_toArray, List.set_cons_zero, List.set_cons_succ]
            refine wpAnyH_take (i := 8) (v := undef) rfl (by kernel_rfl) (by kernel_rfl) (by kernel_rfl) (fun _ _ _ h => h) (.inr ⟨by rfl, rfl⟩) (by assumption) ?_
            try simp only [Act.put, List.getElem_toArray, List.getElem_cons_zero, List.getElem_cons_succ, List.setIfInBounds_toArray, List.set_cons_zero, List.set_cons_succ]
            refine wpAnyH_take (i := 9) (v := undef) rfl (by kernel_rfl) (by kernel_rfl) (by kernel_rfl) (fun _ _ _ h => h) (.inr ⟨by rfl, rfl⟩) (by assumption) ?_
            try simp only [Act.put, List.getElem_toArray, List.getElem_cons_zero, List.getElem_cons_succ, List.setIfInBounds_toArray, List.set_cons_zero, List.set_cons_succ]
            refine wpAnyH_take (i := 10) (v := undef) rfl (by kernel_rfl) (by kernel_rfl) (by kernel_rfl) (fun _ _ _ h => h) (.inr ⟨by rfl, rfl⟩) (by assumption) ?_
            try simp only [Act.put, List.getElem_toArray, List.getElem_cons_zero, List.getElem_cons_succ, List.setIfInBounds_toArray, List.set_cons_zero, List.set_cons_succ]
            refine wpAnyH_take (i := 11) (v := ?_) rfl (by kernel_rfl) (by kernel_rfl) (by kernel_rfl) (fun _ _ _ h => h) (.inl ⟨by rfl, ?_⟩) (by assumption) ?_
            rotate_left 1
            · intro w0 hSw
              go_simp <;> with_reducible rfl
            try simp only [Act.put, List.getElem_toArray, List.getElem_cons_zero, List.getElem_cons_succ, List.setIfInBounds_toArray, List.set_cons_zero, List.set_cons_succ]
            refine wpAnyH_take (i := 12) (v := ?_) rfl (by kernel_rfl) (by kernel_rfl) (by kernel_rfl) (fun _ _ _ h => h) (.inl ⟨by rfl, ?_⟩) (by assumption) ?_
            rotate_left 1
            · intro w0 hSw
              go_simp <;> with_reducible rfl
            try simp only [Act.put, List.getElem_toArray, List.getElem_cons_zero, List.getElem_cons_succ, List.setIfInBounds_toArray, List.set_cons_zero, List.set_cons_succ]
            refine wpAnyH_done (by kernel_rfl) ?_ 0
            go_wp2_with fail
            go_roundw
            case rel => exact ⟨j + 1, by go_num, by omega, by rw [HCS.out]; rfl, HB2.out.drew⟩
            case measure => simp [RowKit.intOf]; omega
          | false =>
            rcases hpc with ⟨rfl, q1, q2⟩ | ⟨rfl, q1 | ⟨q1, q2⟩⟩
            all_goals
              go_wp2_with fail
              refine wp_region_held_drew (S := (fun W => W.cell? ⟨bk, o + k * 2, none⟩ = some (.string ka) ∧ W.cell? ⟨bk, o + k * 2 + 1, none⟩ = some (.string va) ∧ W.cell? ⟨bj, oj + j * 2, none⟩ = some (.string kb) ∧ W.cell? ⟨bj, oj + j * 2 + 1, none⟩ = some (.string vb))) (by kernel_rfl) (HXY.out _ HB2.out.drew) (fun hHeld => ?_)
              refine wpAnyH_take (i := 0) (v := ?_) rfl (by kernel_rfl) (by kernel_rfl) (by kernel_rfl) (fun _ _ _ h => h) (.inl ⟨by rfl, ?_⟩) (by assumption) ?_
              rotate_left 1
              · intro w0 hSw
                go_simp <;> with_reducible rfl
              try simp only [Act.put, List.getElem_toArray, List.getElem_cons_zero, List.setIfInBounds_toArray, List.set_cons_zero, List.set_cons_succ]
              refine wpAnyH_take (i := 1) (v := ?_) rfl (by kernel_rfl) (by kernel_rfl) (by kernel_rfl) (fun _ _ _ h => h) (.inl ⟨by rfl, ?_⟩) (by assumption) ?_
              rotate_left 1
              · intro w0 hSw
                go_simp <;> with_reducible rfl
              try simp only [Act.put, List.getElem_toArray, List.getElem_cons_zero, List.getElem_cons_succ, List.setIfInBounds_toArray, List.set_cons_zero, List.set_cons_succ]
              refine wpAnyH_take (i := 2) (v := ?_) rfl (by kernel_rfl) (by kernel_rfl) (by kernel_rfl) (fun _ _ _ h => h) (.inl ⟨by rfl, ?_⟩) (by assumption) ?_
              rotate_left 1
              · intro w0 hSw
                go_simp <;> with_reducible rfl
              try simp only [Act.put, List.getElem_toArray, List.getElem_cons_zero, List.getElem_cons_succ, List.setIfInBounds_toArray, List.set_cons_zero, List.set_cons_succ]
              refine wpAnyH_take (i := 3) (v := ?_) rfl (by kernel_rfl) (by kernel_rfl) (by kernel_rfl) (fun _ _ _ h => h) (.inl ⟨by rfl, ?_⟩) (by assumption) ?_
              rotate_left 1
              · intro w0 hSw
                go_simp <;> with_reducible rfl
              try simp only [Act.put, List.getElem_toArray, List.getElem_cons_zero, List.getElem_cons_succ, List.setIfInBounds_toArray, List.set_cons_zero, List.set_cons_succ]
              refine wpAnyH_take (i := 4) (v := ?_) rfl (by kernel_rfl) (by kernel_rfl) (by kernel_rfl) (fun _ _ _ h => h) (.inl ⟨by rfl, ?_⟩) (by assumption) ?_
              rotate_left 1
              · intro w0 hSw
                go_simp <;> with_reducible rfl
              try simp only [Act.put, List.getElem_toArray, List.getElem_cons_zero, List.getElem_cons_succ, List.setIfInBounds_toArray, List.set_cons_zero, List.set_cons_succ]
              refine wpAnyH_take (i := 5) (v := ?_) rfl (by kernel_rfl) (by kernel_rfl) (by kernel_rfl) (fun _ _ _ h => h) (.inl ⟨by rfl, ?_⟩) (by assumption) ?_
              rotate_left 1
              · intro w0 hSw
                obtain ⟨z0, z1, z2, z3⟩ := hSw
                go_simp <;> with_reducible rfl
              try simp only [Act.put, List.getElem_toArray, List.getElem_cons_zero, List.getElem_cons_succ, List.setIfInBounds_toArray, List.set_cons_zero, List.set_cons_succ]
              refine wpAnyH_take (i := 6) (v := ?_) rfl (by kernel_rfl) (by kernel_rfl) (by kernel_rfl) (fun _ _ _ h => h) (.inl ⟨by rfl, ?_⟩) (by assumption) ?_
              rotate_left 1
              · intro w0 hSw
                go_simp <;> with_reducible rfl
              try simp only [Act.put, List.getElem_toArray, List.getElem_cons_zero, List.getElem_cons_succ, List.setIfInBounds_toArray, List.set_cons_zero, List.set_cons_succ]
              refine wpAnyH_take (i := 7) (v := ?_) rfl (by kernel_rfl) (by kernel_rfl) (by kernel_rfl) (fun _ _ _ h => h) (.inl ⟨by rfl, ?_⟩) (by assumption) ?_
              rotate_left 1
              · intro w0 hSw
                go_simp <;> with_reducible rfl
              try simp only [Act.put, List.getElem_toArray, List.getElem_cons_zero, List.getElem_cons_succ, List.setIfInBounds_toArray, List.set_cons_zero, List.set_cons_succ]
              refine wpAnyH_take (i := 8) (v := ?_) rfl (by kernel_rfl) (by kernel_rfl) (by kernel_rfl) (fun _ _ _ h => h) (.inl ⟨by rfl, ?_⟩) (by assumption) ?_
              rotate_left 1
              · intro w0 hSw
                go_simp <;> with_reducible rfl
              try simp only [Act.put, List.getElem_toArray, List.getElem_cons_zero, List.getElem_cons_succ, List.setIfInBounds_toArray, List.set_cons_zero, List.set_cons_succ]
              refine wpAnyH_take (i := 9) (v := ?_) rfl (by kernel_rfl) (by kernel_rfl) (by kernel_rfl) (fun _ _ _ h => h) (.inl ⟨by rfl, ?_⟩) (by assumption) ?_
              rotate_left 1
              · intro w0 hSw
                obtain ⟨z0, z1, z2, z3⟩ := hSw
                go_simp <;> with_reducible rfl
              try simp only [Act.put, List.getElem_toArray, List.getElem_cons_zero, List.getElem_cons_succ, List.setIfInBounds_toArray, List.set_cons_zero, List.set_cons_succ]
              refine wpAnyH_take (i := 10) (v := ?_) rfl (by kernel_rfl) (by kernel_rfl) (by kernel_rfl) (fun _ _ _ h => h) (.inl ⟨by rfl, ?_⟩) (by assumption) ?_
              rotate_left 1
              · intro w0 hSw
                go_simp <;> with_reducible rfl
              try simp only [Act.put, List.getElem_toArray, List.getElem_cons_zero, List.getElem_cons_succ, List.setIfInBounds_toArray, List.set_cons_zero, List.set_cons_succ]
              refine wpAnyH_take (i := 11) (v := ?_) rfl (by kernel_rfl) (by kernel_rfl) (by kernel_rfl) (fun _ _ _ h => h) (.inl ⟨by rfl, ?_⟩) (by assumption) ?_
              rotate_left 1
              · intro w0 hSw
                go_simp <;> with_reducible rfl
              try simp only [Act.put, List.getElem_toArray, List.getElem_cons_zero, List.getElem_cons_succ, List.setIfInBounds_toArray, List.set_cons_zero, List.set_cons_succ]
              refine wpAnyH_take (i := 12) (v := ?_) rfl (by kernel_rfl) (by kernel_rfl) (by kernel_rfl) (fun _ _ _ h => h) (.inl ⟨by rfl, ?_⟩) (by assumption) ?_
              rotate_left 1
              · intro w0 hSw
                go_simp <;> with_reducible rfl
              try simp only [Act.put, List.getElem_toArray, List.getElem_cons_zero, List.getElem_cons_succ, List.setIfInBounds_toArray, List.set_cons_zero, List.set_cons_succ]
              refine wpAnyH_done (by kernel_rfl) ?_ 0
              go_wp2_with fail
              go_roundw
              case rel => exact ⟨j + 1, by go_num, by omega, by rw [HCS.out]; rfl, HB2.out.drew⟩
              case measure => simp [RowKit.intOf]; omega
        · have hjm2 : j = m := by omega
          subst hjm2
          rw [List.take_of_length_le (by rw [HM.out]; exact Nat.le_refl _)]
          obtain ⟨mt, hmt⟩ : ∃ b, qs.contains x = b := ⟨_, rfl⟩
          have hws := HWS.out
          rw [hmt] at hws ⊢
          clear hmt
          cases mt with
          | true =>
            have HW2 := Lib.hid hws.symm
            clear hws
            go_wp2_with fail
            go_roundw
            case rel => exact ⟨k + 1, by go_num, by omega, HW2.out, HB2.out⟩
            case measure => simp [RowKit.intOf]; omega
          | false =>
            obtain rfl : r = false := hws
            go_wp2_with fail
            go_ret
            exact ⟨rfl, HB2.out⟩
    · have hmk : k = n := by omega
      subst hmk
      have hw := HW.out
      rw [List.drop_eq_nil_of_le (by rw [HN.out]; exact Nat.le_refl _)] at hw
      obtain rfl : true = r := hw
      go_wp2_with fail
      go_ret
      exact ⟨rfl, HB.out⟩
end Go.Proofs.YthicdhnjincflaaDoor

namespace Go.Proofs.YthicdhnjincflaaDoor
open Go.RowKit Go.Shelf Go.Lib
attribute [local go_sem] Oper.semAt_some
theorem weightP_take (l : List PairD) (n : Nat) : weightP (l.take n) ≤ weightP l := by
  have := weightP_append (l.take n) (l.drop n)
  rw [List.take_append_drop] at this
  omega
theorem Pairs.take {w : World} {p : Option Addr} {n c m : Nat} {ps : List PairD} (h : Pairs w (.slice p n c) ps) (hm : m ≤ n) : Pairs w (.slice p m c) (ps.take m) := by
  obtain ⟨p', c', hv, hc, h⟩ := h
  cases hv
  refine ⟨_, _, by rw [List.length_take, Nat.min_eq_left hm], by rw [List.length_take]; omega, ?_⟩
  rcases h with h | ⟨bk, o, h1, h2, h3⟩
  · left; rw [h, List.take_nil]
  · refine .inr ⟨bk, o, h1, h2, fun j x hx => ?_⟩
    rw [List.getElem?_take] at hx
    split at hx
    · exact h3 j x hx
    · cases hx
theorem nodes_all {ps : List PairD} (h : rightP ps = true) : nodesR ps = (allP keccakL ps, 0) := by
  unfold nodesR
  rw [if_pos h]
  cases ps with
  | nil => rfl
  | cons q r => rfl
theorem nodes_smallR (ps : List PairD) : ∀ s ∈ (nodesR ps).1, s.length ≤ 20000 := fun s hs => by
  cases hr : rightP ps with
  | false => rw [nodes_wrong hr] at hs; cases hs
  | true =>
    by_cases hne : ps = []
    · rw [hne] at hs; cases hs
    · rw [nodes_right hr hne] at hs
      obtain ⟨hv, hf⟩ := right_valid hr hne
      exact nodes_short keccakL_length 129 ps 0 hv hf (by omega) s hs
theorem clashK_of {l : List (List UInt8)} (h : Clash keccakL l) : HasClashK (l.map bt) := by
  obtain ⟨a, ha, b, hb, h3, h4⟩ := h
  refine ⟨⟨a.toArray⟩, ⟨b.toArray⟩, List.mem_map.2 ⟨a, ha, rfl⟩, List.mem_map.2 ⟨b, hb, rfl⟩, fun e => h3 (by have := congrArg (fun x : ByteArray => x.data.toList) e; simpa using this), ?_⟩
  unfold kecB
  rw [show (⟨a.toArray⟩ : ByteArray).data.toList = a from rfl, show (⟨b.toArray⟩ : ByteArray).data.toList = b from rfl, h4]
set_option maxRecDepth 100000 in
set_option maxHeartbeats 6400000 in
theorem apart_law (v0 : Value) (l0 : List PairD) (v1 : Value) (l1 : List PairD) (w : World) (hs0 : Pairs w v0 l0) (g0 : weightP l0 ≤ 1048576) (hs1 : Pairs w v1 l1) (g1 : weightP l1 ≤ 1048576) (hK : KecT w) :
    Calls Tryd.prog 10 #[v0, v1] w fun e w' => e = .returned (.bool true) ∧ Below w.heap.size w w' := by
  have hl0 := weightP_len l0
  have hl1 := weightP_len l1
  have HSH := Lib.hid (shown06_any w hK)
  obtain ⟨p0, c0, rfl, hc0, _⟩ := id hs0
  obtain ⟨p1, c1, rfl, hc1, _⟩ := id hs1
  obtain ⟨n, hn⟩ : ∃ n, l0.length = n := ⟨_, rfl⟩
  obtain ⟨m, hm⟩ : ∃ m, l1.length = m := ⟨_, rfl⟩
  rw [hn] at hs0 hc0 hl0 ⊢
  rw [hm] at hs1 hc1 hl1 ⊢
  obtain ⟨n', hn'⟩ : ∃ k, min n 20 = k := ⟨_, rfl⟩
  obtain ⟨m', hm'⟩ : ∃ k, min m 20 = k := ⟨_, rfl⟩
  have e1 : min (n : Int) 20 = (n' : Int) := by omega
  have e2 : min (m : Int) 20 = (m' : Int) := by omega
  have e3 : (0 : Int) ≤ (n' : Int) := by omega
  have e4 : (0 : Int) ≤ (m' : Int) := by omega
  have e5 : (n' : Int) ≤ (c0 : Int) := by omega
  have e6 : (m' : Int) ≤ (c1 : Int) := by omega
  have HT0 := Lib.hid (hs0.take (m := n') (by omega))
  have HT1 := Lib.hid (hs1.take (m := m') (by omega))
  have hbig := fewP_big (n := 40) (l := l0.take n') (Nat.le_trans (weightP_take l0 n') g0)
  have hbig2 := fewP_big (n := 40) (l := l1.take m') (Nat.le_trans (weightP_take l1 m') g1)
  obtain ⟨FP, hFP⟩ : ∃ A, fewP 40 (l0.take n') = A := ⟨_, rfl⟩
  obtain ⟨GP, hGP⟩ : ∃ A, fewP 40 (l1.take m') = A := ⟨_, rfl⟩
  rw [hFP] at hbig
  rw [hGP] at hbig2
  have hlF : FP.length ≤ 40 := by rw [← hFP]; exact fewP_len 40 _
  have hlG : GP.length ≤ 40 := by rw [← hGP]; exact fewP_len 40 _
  have HS0 : Hid (∀ W, Below w.heap.size w W → Calls Tryd.prog 27 #[.slice p0 n' c0] W fun e w' => ∃ p c, e = .returned (.slice p FP.length c) ∧ OwnP W.heap.size w' (.slice p FP.length c) FP ∧ Below W.heap.size W w') := Lib.hid fun W hb => by
    rw [← hFP]
    exact some06_any _ _ W (HT0.out.after hb) (by rw [List.length_take]; omega)
  have HS1 : Hid (∀ W, Below w.heap.size w W → Calls Tryd.prog 27 #[.slice p1 m' c1] W fun e w' => ∃ p c, e = .returned (.slice p GP.length c) ∧ OwnP W.heap.size w' (.slice p GP.length c) GP ∧ Below W.heap.size W w') := Lib.hid fun W hb => by
    rw [← hGP]
    exact some06_any _ _ W (HT1.out.after hb) (by rw [List.length_take]; omega)
  have HKT := Lib.hid (fun W (hb : Below w.heap.size w W) => hK.belowP hb)
  obtain ⟨ra, ea, hra⟩ : ∃ x e, rootR FP = (x, e) := ⟨_, _, rfl⟩
  obtain ⟨rb, eb, hrb⟩ : ∃ x e, rootR GP = (x, e) := ⟨_, _, rfl⟩
  obtain ⟨NA, na, hna⟩ : ∃ x e, nodesR FP = (x, e) := ⟨_, _, rfl⟩
  obtain ⟨NB, nb, hnb⟩ : ∃ x e, nodesR GP = (x, e) := ⟨_, _, rfl⟩
  have HRA : Hid (∀ v W, Pairs W v FP → KecT W → Calls Tryd.prog 29 #[v] W fun e w' => e = .returned (.tuple #[.string ⟨ra.toArray⟩, .int .i64 ea]) ∧ Below W.heap.size W w') := Lib.hid fun v W hv hk => by
    have h := trieRootTop_any FP v W hv (by omega) hbig hk
    rw [hra] at h
    exact h
  have HRB : Hid (∀ v W, Pairs W v GP → KecT W → Calls Tryd.prog 29 #[v] W fun e w' => e = .returned (.tuple #[.string ⟨rb.toArray⟩, .int .i64 eb]) ∧ Below W.heap.size W w') := Lib.hid fun v W hv hk => by
    have h := trieRootTop_any GP v W hv (by omega) hbig2 hk
    rw [hrb] at h
    exact h
  have HNA : Hid (∀ v W, Pairs W v FP → KecT W → Calls Tryd.prog 32 #[v] W (TextsR W NA na)) := Lib.hid fun v W hv hk => by
    have h := trieNodes_any FP v W hv (by omega) hbig hk
    rw [hna] at h
    exact h
  have HNB : Hid (∀ v W, Pairs W v GP → KecT W → Calls Tryd.prog 32 #[v] W (TextsR W NB nb)) := Lib.hid fun v W hv hk => by
    have h := trieNodes_any GP v W hv (by omega) hbig2 hk
    rw [hnb] at h
    exact h
  have HW1 : Hid (∀ v v' W, Pairs W v FP → Pairs W v' GP → Calls Tryd.prog 31 #[v, v'] W fun e w' => e = .returned (.bool (withinP FP GP)) ∧ Below W.heap.size W w') := Lib.hid fun v v' W h1 h2 => within_any FP GP v v' W h1 h2 (by omega) (by omega)
  have HW2 : Hid (∀ v v' W, Pairs W v GP → Pairs W v' FP → Calls Tryd.prog 31 #[v, v'] W fun e w' => e = .returned (.bool (withinP GP FP)) ∧ Below W.heap.size W w') := Lib.hid fun v v' W h1 h2 => within_any GP FP v v' W h1 h2 (by omega) (by omega)
  obtain ⟨t1, ht1⟩ : ∃ b, withinP FP GP = b := ⟨_, rfl⟩
  obtain ⟨t2, ht2⟩ : ∃ b, withinP GP FP = b := ⟨_, rfl⟩
  rw [ht1] at HW1
  rw [ht2] at HW2
  have HLA : Hid (NA.length ≤ 10000 ∧ ∀ s ∈ NA, s.length ≤ 20000) := Lib.hid (by
    have h1 := nodes_lenR hlF
    have h2 := nodes_smallR FP
    rw [hna] at h1 h2
    exact ⟨h1, h2⟩)
  have HLB : Hid (NB.length ≤ 10000 ∧ ∀ s ∈ NB, s.length ≤ 20000) := Lib.hid (by
    have h1 := nodes_lenR hlG
    have h2 := nodes_smallR GP
    rw [hnb] at h1 h2
    exact ⟨h1, h2⟩)
  have HF : Hid (¬ ea = 0 ∨ (ea = 0 ∧ ¬ eb = 0) ∨ (ea = 0 ∧ eb = 0 ∧ na = 0 ∧ nb = 0 ∧ (ra = rb → (t1 && t2) = false → HasClashK ([⟨#[128]⟩] ++ NA.map bt ++ NB.map bt)))) := Lib.hid (by
    cases h1 : rightP FP with
    | false => rw [root_wrong h1] at hra; cases hra; exact .inl (by decide)
    | true =>
      rw [root_right h1] at hra
      cases h2 : rightP GP with
      | false => rw [root_wrong h2] at hrb; cases hra; cases hrb; exact .inr (.inl ⟨rfl, by decide⟩)
      | true =>
        rw [root_right h2] at hrb
        rw [nodes_all h1] at hna
        rw [nodes_all h2] at hnb
        cases hra; cases hrb; cases hna; cases hnb
        refine .inr (.inr ⟨rfl, rfl, rfl, rfl, fun hr ht => ?_⟩)
        rw [show [(⟨#[128]⟩ : ByteArray)] ++ (allP keccakL FP).map bt ++ (allP keccakL GP).map bt = ((([128] :: allP keccakL FP) ++ allP keccakL GP).map bt) by rw [List.map_append]; rfl]
        rcases apart (K := keccakL) keccakL_length h1 h2 hr with ⟨h3, h4⟩ | h3
        · rw [← ht1, ← ht2, within_iff.2 h3, within_iff.2 h4] at ht
          cases ht
        · exact clashK_of h3)
  have HSZ : Hid (∀ x ∈ [(⟨#[128]⟩ : ByteArray)] ++ NA.map bt ++ NB.map bt, x.size ≤ 1099511627776) := Lib.hid fun x hx => by
    rw [List.mem_append, List.mem_append] at hx
    rcases hx with (hx | hx) | hx
    · rw [List.mem_singleton.1 hx]; decide
    · obtain ⟨s, hs, rfl⟩ := List.mem_map.1 hx
      have := HLA.out.2 s hs
      show s.length ≤ _
      omega
    · obtain ⟨s, hs, rfl⟩ := List.mem_map.1 hx
      have := HLB.out.2 s hs
      show s.length ≤ _
      omega
  obtain ⟨fl, hfl⟩ : ∃ n, FP.length = n := ⟨_, rfl⟩
  obtain ⟨gl, hgl⟩ : ∃ n, GP.length = n := ⟨_, rfl⟩
  rw [hfl] at HS0
  rw [hgl] at HS1
  clear hs0 hs1 g0 g1 hK hl0 hl1 hc0 hc1 hn hm hn' hm' HT0 HT1 hbig hbig2 hFP hGP hlF hlG hra hrb hna hnb ht1 ht2 hfl hgl
  go_enter Tryd.func10, Tryd.ntmps10
  go_wp2_with fail
  refine HSH.out.mono ?_
  rintro e w1 ⟨rfl, hb1⟩
  have HB1 := Lib.hid hb1
  clear hb1 HSH
  go_wp2_with fail
  refine (HS0.out _ HB1.out).mono ?_
  rintro e w2 ⟨p2, c2, rfl, ho2, hb2⟩
  have HB2 := Lib.hid (HB1.out.trans (hb2.mono HB1.out.size))
  have HP2 := Lib.hid ho2.pairs
  clear hb2 ho2 HB1 HS0
  go_wp2_with fail
  refine (HS1.out _ HB2.out).mono ?_
  rintro e w3 ⟨p3, c3, rfl, ho3, hb3⟩
  have HB3 := Lib.hid (HB2.out.trans (hb3.mono HB2.out.size))
  have HP3 := Lib.hid (HP2.out.after hb3)
  have HQ3 := Lib.hid ho3.pairs
  clear hb3 ho3 HB2 HP2 HS1
  go_wp2_with fail
  refine (HRA.out _ _ HP3.out (HKT.out _ HB3.out)).mono ?_
  rintro e w4 ⟨rfl, hb4⟩
  have HB4 := Lib.hid (HB3.out.trans (hb4.mono HB3.out.size))
  have HP4 := Lib.hid (HP3.out.after hb4)
  have HQ4 := Lib.hid (HQ3.out.after hb4)
  clear hb4 HB3 HP3 HQ3 HRA
  go_wp2_with fail
  refine (HRB.out _ _ HQ4.out (HKT.out _ HB4.out)).mono ?_
  rintro e w5 ⟨rfl, hb5⟩
  have HB5 := Lib.hid (HB4.out.trans (hb5.mono HB4.out.size))
  have HP5 := Lib.hid (HP4.out.after hb5)
  have HQ5 := Lib.hid (HQ4.out.after hb5)
  clear hb5 HB4 HP4 HQ4 HRB
  rcases HF.out with h0 | ⟨rfl, h0⟩ | ⟨rfl, rfl, rfl, rfl, hcl⟩
  · have h1 : (ea == 0) = false := by simpa using h0
    clear HF
    go_wp2_with fail
    go_ret
    exact ⟨rfl, HB5.out⟩
  · have h1 : (eb == 0) = false := by simpa using h0
    clear HF
    go_wp2_with fail
    go_ret
    exact ⟨rfl, HB5.out⟩
  · have HCL0 := Lib.hid hcl
    clear HF hcl
    by_cases hab : ra = rb
    · subst hab
      go_wp2_with fail
      refine (HW1.out _ _ _ HP5.out HQ5.out).mono ?_
      rintro e w6 ⟨rfl, hb6⟩
      have HB6 := Lib.hid (HB5.out.trans (hb6.mono HB5.out.size))
      have HP6 := Lib.hid (HP5.out.after hb6)
      have HQ6 := Lib.hid (HQ5.out.after hb6)
      clear hb6 HB5 HP5 HQ5
      cases t1 with
      | true =>
        go_wp2_with fail
        refine (HW2.out _ _ _ HQ6.out HP6.out).mono ?_
        rintro e w7 ⟨rfl, hb7⟩
        have HB7 := Lib.hid (HB6.out.trans (hb7.mono HB6.out.size))
        have HP7 := Lib.hid (HP6.out.after hb7)
        have HQ7 := Lib.hid (HQ6.out.after hb7)
        clear hb7 HB6 HP6 HQ6
        cases t2 with
        | true =>
          go_wp2_with fail
          go_ret
          exact ⟨rfl, HB7.out⟩
        | false =>
          have HCL := Lib.hid (HCL0.out (by first | trivial | rfl) (by first | trivial | rfl))
          clear HCL0
          go_wp2_with fail
          refine (HNA.out _ _ HP7.out (HKT.out _ HB7.out)).mono ?_
          rintro e wa ⟨pa, ca, rfl, hoa, hba⟩
          have HBa := Lib.hid (HB7.out.trans (hba.mono HB7.out.size))
          have HQa := Lib.hid (HQ7.out.after hba)
          have HOa := Lib.hid (hoa.base HB7.out.size)
          clear hba hoa HB7 HP7 HQ7
          go_wp2_with fail
          refine (HNB.out _ _ HQa.out (HKT.out _ HBa.out)).mono ?_
          rintro e wb ⟨pb, cb, rfl, hob, hbb⟩
          have HBb := Lib.hid (HBa.out.trans (hbb.mono HBa.out.size))
          have HOb := Lib.hid (HOa.out.after hbb)
          have HXb := Lib.hid (hob.base HBa.out.size)
          clear hbb hob HBa HOa HQa
          go_wp2_with (at_builtin; refine wpList_appendO rfl _ _ 23 rfl w.heap.size Tryd.underlying23 _ [⟨#[128]⟩] rfl (OwnS.lit wb w.heap.size [⟨#[128]⟩] HBb.out.size (by decide)) w.heap.size _ (NA.map bt) rfl (HOb.out.after (laid1 wb _)) ?c0 ?c1 ?_)
          case c0 => first | (rw [List.length_map]; have := HLA.out.1; simp; omega) | (have := HLA.out.1; simp; omega)
          case c1 => have := HBb.out.size; simp; omega
          intro v8 w8 ho8 hg8
          have hb8 : Below w.heap.size w w8 := (HBb.out.alloc HBb.out.size _).grown hg8 (by have := HBb.out.size; simp; omega) (fun r e => by cases e; exact HBb.out.size)
          have hp8 : OwnS w.heap.size w8 (.slice pb NB.length cb) (NB.map bt) := (HXb.out.after (laid1 wb _)).kept hg8 (by
            rcases HXb.out.forms with ⟨h1, -⟩ | ⟨g, c, h1⟩
            · rw [h1]; exact .inl rfl
            · have h2 := (HXb.out.lt g (by rw [h1]; rfl)).2
              refine .inr fun h3 => ?_
              rw [h1] at h3
              have h4 : g = wb.heap.size := Option.some.inj h3
              omega)
          have HB8 := Lib.hid hb8
          change OwnS w.heap.size w8 v8 ([(⟨#[128]⟩ : ByteArray)] ++ NA.map bt) at ho8
          obtain ⟨L6, hL6⟩ : ∃ L, [(⟨#[128]⟩ : ByteArray)] ++ NA.map bt = L := ⟨_, rfl⟩
          have hn6 : L6.length = NA.length + 1 := by rw [← hL6]; simp
          rw [hL6] at ho8 HCL HSZ
          obtain ⟨p8, c8, rfl⟩ := ho8.form
          rw [hn6] at ho8
          have HO8 := Lib.hid ho8
          have HN8 := Lib.hid hn6
          have HP8 := Lib.hid hp8
          rw [hn6]
          clear hb8 ho8 hp8 hg8 HBb HOb HXb hL6 hn6
          go_wp2_with (at_builtin; refine wpList_appendO rfl _ _ 23 rfl w.heap.size Tryd.underlying23 _ _ rfl HO8.out w.heap.size _ (NB.map bt) rfl HP8.out ?d0 ?d1 ?_)
          case d0 => rw [HN8.out, List.length_map]; have := HLA.out.1; have := HLB.out.1; omega
          case d1 => exact HB8.out.size
          intro v9 w9 ho9 hg9
          have hb9 : Below w.heap.size w w9 := HB8.out.grown hg9 HB8.out.size (fun r e => (HO8.out.lt r e).1)
          have HB9 := Lib.hid hb9
          have HS9 := Lib.hid ho9.strs
          have hln : (L6 ++ NB.map bt).length ≤ 1048576 := by rw [List.length_append, HN8.out, List.length_map]; have := HLA.out.1; have := HLB.out.1; omega
          have HCC := Lib.hid (clash_any v9 _ w9 HS9.out hln HSZ.out)
          clear hb9 ho9 hg9 hln HO8 HP8 HB8
          go_wp2_with fail
          refine HCC.out.mono ?_
          rintro e w10 ⟨⟨b10, rfl, hb10⟩, hbl10⟩
          obtain rfl := hb10 HCL.out
          have HB10 := Lib.hid (HB9.out.trans (hbl10.mono HB9.out.size))
          clear hbl10
          go_wp2_with fail
          go_ret
          exact ⟨rfl, HB10.out⟩
      | false =>
        have HCL := Lib.hid (HCL0.out (by first | trivial | rfl) (by first | trivial | rfl))
        clear HCL0
        go_wp2_with fail
        refine (HNA.out _ _ HP6.out (HKT.out _ HB6.out)).mono ?_
        rintro e wa ⟨pa, ca, rfl, hoa, hba⟩
        have HBa := Lib.hid (HB6.out.trans (hba.mono HB6.out.size))
        have HQa := Lib.hid (HQ6.out.after hba)
        have HOa := Lib.hid (hoa.base HB6.out.size)
        clear hba hoa HB6 HP6 HQ6
        go_wp2_with fail
        refine (HNB.out _ _ HQa.out (HKT.out _ HBa.out)).mono ?_
        rintro e wb ⟨pb, cb, rfl, hob, hbb⟩
        have HBb := Lib.hid (HBa.out.trans (hbb.mono HBa.out.size))
        have HOb := Lib.hid (HOa.out.after hbb)
        have HXb := Lib.hid (hob.base HBa.out.size)
        clear hbb hob HBa HOa HQa
        go_wp2_with (at_builtin; refine wpList_appendO rfl _ _ 23 rfl w.heap.size Tryd.underlying23 _ [⟨#[128]⟩] rfl (OwnS.lit wb w.heap.size [⟨#[128]⟩] HBb.out.size (by decide)) w.heap.size _ (NA.map bt) rfl (HOb.out.after (laid1 wb _)) ?c0 ?c1 ?_)
        case c0 => first | (rw [List.length_map]; have := HLA.out.1; simp; omega) | (have := HLA.out.1; simp; omega)
        case c1 => have := HBb.out.size; simp; omega
        intro v8 w8 ho8 hg8
        have hb8 : Below w.heap.size w w8 := (HBb.out.alloc HBb.out.size _).grown hg8 (by have := HBb.out.size; simp; omega) (fun r e => by cases e; exact HBb.out.size)
        have hp8 : OwnS w.heap.size w8 (.slice pb NB.length cb) (NB.map bt) := (HXb.out.after (laid1 wb _)).kept hg8 (by
          rcases HXb.out.forms with ⟨h1, -⟩ | ⟨g, c, h1⟩
          · rw [h1]; exact .inl rfl
          · have h2 := (HXb.out.lt g (by rw [h1]; rfl)).2
            refine .inr fun h3 => ?_
            rw [h1] at h3
            have h4 : g = wb.heap.size := Option.some.inj h3
            omega)
        have HB8 := Lib.hid hb8
        change OwnS w.heap.size w8 v8 ([(⟨#[128]⟩ : ByteArray)] ++ NA.map bt) at ho8
        obtain ⟨L6, hL6⟩ : ∃ L, [(⟨#[128]⟩ : ByteArray)] ++ NA.map bt = L := ⟨_, rfl⟩
        have hn6 : L6.length = NA.length + 1 := by rw [← hL6]; simp
        rw [hL6] at ho8 HCL HSZ
        obtain ⟨p8, c8, rfl⟩ := ho8.form
        rw [hn6] at ho8
        have HO8 := Lib.hid ho8
        have HN8 := Lib.hid hn6
        have HP8 := Lib.hid hp8
        rw [hn6]
        clear hb8 ho8 hp8 hg8 HBb HOb HXb hL6 hn6
        go_wp2_with (at_builtin; refine wpList_appendO rfl _ _ 23 rfl w.heap.size Tryd.underlying23 _ _ rfl HO8.out w.heap.size _ (NB.map bt) rfl HP8.out ?d0 ?d1 ?_)
        case d0 => rw [HN8.out, List.length_map]; have := HLA.out.1; have := HLB.out.1; omega
        case d1 => exact HB8.out.size
        intro v9 w9 ho9 hg9
        have hb9 : Below w.heap.size w w9 := HB8.out.grown hg9 HB8.out.size (fun r e => (HO8.out.lt r e).1)
        have HB9 := Lib.hid hb9
        have HS9 := Lib.hid ho9.strs
        have hln : (L6 ++ NB.map bt).length ≤ 1048576 := by rw [List.length_append, HN8.out, List.length_map]; have := HLA.out.1; have := HLB.out.1; omega
        have HCC := Lib.hid (clash_any v9 _ w9 HS9.out hln HSZ.out)
        clear hb9 ho9 hg9 hln HO8 HP8 HB8
        go_wp2_with fail
        refine HCC.out.mono ?_
        rintro e w10 ⟨⟨b10, rfl, hb10⟩, hbl10⟩
        obtain rfl := hb10 HCL.out
        have HB10 := Lib.hid (HB9.out.trans (hbl10.mono HB9.out.size))
        clear hbl10
        go_wp2_with fail
        go_ret
        exact ⟨rfl, HB10.out⟩
    · have q1 : (ra == rb) = false := by rw [beq_eq_false_iff_ne]; exact hab
      have q2 : (⟨ra.toArray⟩ : ByteArray) ≠ ⟨rb.toArray⟩ := fun e => hab (by have := congrArg (fun s : ByteArray => s.data.toList) e; simpa using this)
      go_wp2_with fail
      go_ret
      exact ⟨rfl, HB5.out⟩
end Go.Proofs.YthicdhnjincflaaDoor
