/- What the walks take: TrxO, TrxH. -/
import Derived.Test.YthicdhnjincflaaGreatDoorU0
import Derived.Test.YthicdhnjincflaaGreatDoorU14
import Derived.Test.YthicdhnjincflaaGreatDoorU26
import Derived.Test.YthicdhnjincflaaGreatDoorU36
import Derived.Test.YthicdhnjincflaaGreatDoorU37
namespace Go.Proofs.YthicdhnjincflaaGreatDoor
open Go.RowKit Go.Shelf Go.Lib
attribute [local go_sem] Oper.semAt_some
theorem prove_len (ps : List PairD) (key : List UInt8) : (proveR ps key).1.length ≤ 1000 := by
  unfold proveR
  cases hr : rightP ps with
  | false => exact Nat.zero_le _
  | true =>
    rw [if_pos rfl]
    cases ps with
    | nil => exact Nat.zero_le _
    | cons q r =>
      obtain ⟨hv, hf⟩ := right_valid hr (by simp)
      have := (way_len (K := keccakL) keccakL_length 129 (q :: r) 0 (halves key) hv hf (by omega) (isPath_halves key) (Nat.zero_le _) (along_zero _ _)).1
      dsimp only
      omega
end Go.Proofs.YthicdhnjincflaaGreatDoor

namespace Go.Proofs.YthicdhnjincflaaGreatDoor
open Go.RowKit Go.Shelf Go.Lib
attribute [local go_sem] Oper.semAt_some
set_option maxRecDepth 100000 in
set_option maxHeartbeats 6400000 in
theorem honest_law (v0 : Value) (l0 : List PairD) (s1 : ByteArray) (w : World) (hs0 : Pairs w v0 l0) (g0 : weightP l0 ≤ 1048576) (g1 : s1.size ≤ 1048576) (hK : KecT w) :
    Calls Tryz.prog 4 #[v0, .string s1] w fun e w' => e = .returned (.bool true) ∧ Below w.heap.size w w' := by
  obtain ⟨key, rfl, hkl⟩ := bytes_list s1
  have hl := weightP_len l0
  have HSH := Lib.hid (shown07_any w hK)
  have hbig := fewP_big (n := 30) g0
  obtain ⟨FP, hFP⟩ : ∃ A, fewP 30 l0 = A := ⟨_, rfl⟩
  rw [hFP] at hbig
  have hlF : FP.length ≤ 30 := by rw [← hFP]; exact fewP_len 30 _
  have HS0 : Hid (∀ W, Below w.heap.size w W → Calls Tryz.prog 12 #[v0] W fun e w' => ∃ p c, e = .returned (.slice p FP.length c) ∧ OwnP W.heap.size w' (.slice p FP.length c) FP ∧ Below W.heap.size W w') := Lib.hid fun W hb => by
    rw [← hFP]
    exact few_any _ _ W (hs0.after hb) (by omega)
  have HKT := Lib.hid (fun W (hb : Below w.heap.size w W) => hK.belowP hb)
  have hksz : (⟨key.toArray⟩ : ByteArray).size = key.length := rfl
  have hkl2 : key.length ≤ 1073741824 := by omega
  obtain ⟨rt, er, hrt⟩ : ∃ x e, rootR FP = (x, e) := ⟨_, _, rfl⟩
  obtain ⟨wy, ew, hwy⟩ : ∃ x e, proveR FP key = (x, e) := ⟨_, _, rfl⟩
  have hwl : wy.length ≤ 1000 := by
    have h := prove_len FP key
    rw [hwy] at h
    exact h
  have HRT : Hid (∀ v W, Pairs W v FP → KecT W → Calls Tryz.prog 7 #[v] W fun e w' => e = .returned (.tuple #[.string ⟨rt.toArray⟩, .int .i64 er]) ∧ Below W.heap.size W w') := Lib.hid fun v W hv hk => by
    have h := trieRootTop_any FP v W hv (by omega) hbig hk
    rw [hrt] at h
    exact h
  have HPT : Hid (∀ v W, Pairs W v FP → KecT W → Calls Tryz.prog 13 #[v, .string ⟨key.toArray⟩] W (TextsR W wy ew)) := Lib.hid fun v W hv hk => by
    have h := trieProve_any FP key v W hv (by omega) hbig hkl2 hk
    rw [hwy] at h
    exact h
  obtain ⟨xa, ea, hra⟩ : ∃ x e, checkP keccakL rt key wy = (x, e) := ⟨_, _, rfl⟩
  have HC2 : Hid (∀ v W, Strs W v (wy.map bt) → KecT W → Calls Tryz.prog 14 #[.string ⟨rt.toArray⟩, .string ⟨key.toArray⟩, v] W fun e w' => e = .returned (.tuple #[.string ⟨xa.toArray⟩, .bool (!xa.isEmpty), .int .i64 ea]) ∧ Below W.heap.size W w') := Lib.hid fun v W hv hk => by
    have h := check_any rt key wy v W hv (by omega) hk
    rw [hra] at h
    exact h
  obtain ⟨pv, pb, hpl⟩ : ∃ x e, plainP FP key = (x, e) := ⟨_, _, rfl⟩
  have HPL := Lib.hid (fun v W (hv : Pairs W v FP) => plain_any FP key v W hv (by omega))
  rw [hpl] at HPL
  have HF : Hid (er = 60 ∨ (er = 0 ∧ ew = 0 ∧ (keyOk key = true → xa = pv ∧ ea = 0 ∧ pb = !xa.isEmpty))) := Lib.hid (by
    cases hr : rightP FP with
    | false => rw [root_wrong hr] at hrt; cases hrt; exact .inl rfl
    | true =>
      rw [root_right hr] at hrt
      have hlk := plain_lookup (fair_right hr) key
      rw [hpl] at hlk
      have e1 := congrArg Prod.fst hlk
      have e2 := congrArg Prod.snd hlk
      dsimp only at e1 e2
      by_cases hne : FP = []
      · rw [hne, show proveR [] key = ([], 0) from rfl] at hwy
        rw [hne] at hrt
        cases hrt; cases hwy
        refine .inr ⟨rfl, rfl, fun hk => ?_⟩
        rw [check_way_none (K := keccakL) keccakL_length hk] at hra
        cases hra
        rw [hne] at hpl
        cases hpl
        exact ⟨rfl, rfl, rfl⟩
      · rw [prove_right hr hne] at hwy
        cases hrt; cases hwy
        refine .inr ⟨rfl, rfl, fun hk => ?_⟩
        have h3 := check_way (K := keccakL) keccakL_length hr hne hk [] (fun s hs => by cases hs) (by simp)
        rw [if_pos rfl, List.append_nil, hra] at h3
        have e3 := congrArg Prod.fst h3
        have e4 := congrArg Prod.snd h3
        dsimp only at e3 e4
        exact ⟨by rw [e3, e1], e4, by rw [e2, e3]⟩)
  obtain ⟨fl, hfl⟩ : ∃ n, FP.length = n := ⟨_, rfl⟩
  rw [hfl] at HS0
  have hko : (¬ key.length = 0 ∧ ¬ 64 < key.length) → keyOk key = true := fun ⟨h1, h2⟩ => by
    unfold keyOk
    rw [Bool.and_eq_true, decide_eq_true_eq]
    exact ⟨by cases key with | nil => exact absurd rfl h1 | cons a r => rfl, by omega⟩
  have HKO := Lib.hid hko
  obtain ⟨kl, hkle⟩ : ∃ n, key.length = n := ⟨_, rfl⟩
  rw [hkle] at HKO hksz
  clear hs0 g0 g1 hK hl hbig hFP hlF hkl hkl2 hrt hwy hra hpl hfl hwl hko hkle
  go_enter Tryz.func4, Tryz.ntmps4
  go_wp2_with fail
  refine HSH.out.mono ?_
  rintro e w1 ⟨rfl, hb1⟩
  have HB1 := Lib.hid hb1
  clear hb1 HSH
  go_wp2_with fail
  refine (HS0.out _ HB1.out).mono ?_
  rintro e w2 ⟨p2, c2, rfl, ho2, hb2⟩
  have HB2 := Lib.hid (HB1.out.trans (hb2.mono HB1.out.size))
  have HP2 := Lib.hid ho2.pairs
  clear hb2 ho2 HB1 HS0
  go_wp2_with fail
  refine (HRT.out _ _ HP2.out (HKT.out _ HB2.out)).mono ?_
  rintro e w3 ⟨rfl, hb3⟩
  have HB3 := Lib.hid (HB2.out.trans (hb3.mono HB2.out.size))
  have HP3 := Lib.hid (HP2.out.after hb3)
  clear hb3 HRT HB2 HP2
  go_wp2_with fail
  refine (HPT.out _ _ HP3.out (HKT.out _ HB3.out)).mono ?_
  rintro e w4 ⟨p4, c4, rfl, ho4, hb4⟩
  have HB4 := Lib.hid (HB3.out.trans (hb4.mono HB3.out.size))
  have HP4 := Lib.hid (HP3.out.after hb4)
  have HY4 := Lib.hid ho4.strs
  clear hb4 ho4 HPT HB3 HP3
  rcases HF.out with rfl | ⟨rfl, rfl, hok⟩
  · clear HF
    go_wp2_with fail
    go_ret
    exact ⟨rfl, HB4.out⟩
  · by_cases hk1 : kl = 0
    · subst hk1
      clear HF hok
      go_wp2_with fail
      go_ret
      exact ⟨rfl, HB4.out⟩
    · by_cases hk2 : 64 < kl
      · have k1 : ¬ ((kl : Int) < 1) := by omega
        have k2 : (64 : Int) < kl := by omega
        clear HF hok
        go_wp2_with fail
        go_ret
        exact ⟨rfl, HB4.out⟩
      · obtain ⟨rfl, rfl, rfl⟩ := hok (HKO.out ⟨hk1, hk2⟩)
        have k1 : ¬ ((kl : Int) < 1) := by omega
        have k2 : ¬ ((64 : Int) < kl) := by omega
        have k3 : decide ((64 : Int) < kl) = false := decide_eq_false k2
        obtain ⟨bb, hbb⟩ : ∃ b, (!xa.isEmpty) = b := ⟨_, rfl⟩
        rw [hbb] at HC2 HPL
        clear HF hbb
        go_wp2_with fail
        refine (HC2.out _ _ HY4.out (HKT.out _ HB4.out)).mono ?_
        rintro e w5 ⟨rfl, hb5⟩
        have HB5 := Lib.hid (HB4.out.trans (hb5.mono HB4.out.size))
        have HP5 := Lib.hid (HP4.out.after hb5)
        clear hb5
        go_wp2_with fail
        refine (HPL.out _ _ HP5.out).mono ?_
        rintro e w6 ⟨rfl, rfl⟩
        cases bb
        all_goals
          go_wp2_with fail
          go_ret
          exact ⟨rfl, HB5.out⟩
end Go.Proofs.YthicdhnjincflaaGreatDoor
