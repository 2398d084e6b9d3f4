/- What the walks take: TrxN. -/
import Derived.Test.YthicdhnjincflaaGreatDoorS13
import Derived.Test.YthicdhnjincflaaGreatDoorS35
import Derived.Test.YthicdhnjincflaaGreatDoorS36
namespace Go.Proofs.YthicdhnjincflaaGreatDoor
open Go.RowKit Go.Shelf Go.Lib
attribute [local go_sem] Oper.semAt_some
set_option maxRecDepth 100000 in
set_option maxHeartbeats 6400000 in
theorem roots_law (v0 : Value) (l0 : List PairD) (w : World) (hs0 : Pairs w v0 l0) (g0 : weightP l0 ≤ 1048576) (hK : KecT w) :
    Calls Tryz.prog 3 #[v0] w fun e w' => e = .returned (.bool true) ∧ Below w.heap.size w w' := by
  have hl := weightP_len l0
  have HSH := Lib.hid (shown06_any w hK)
  have hbig := fewP_big (n := 40) g0
  obtain ⟨FP, hFP⟩ : ∃ A, fewP 40 l0 = A := ⟨_, rfl⟩
  rw [hFP] at hbig
  have hlF : FP.length ≤ 40 := by rw [← hFP]; exact fewP_len 40 _
  have HS0 : Hid (∀ W, Below w.heap.size w W → Calls Tryz.prog 6 #[v0] W fun e w' => ∃ p c, e = .returned (.slice p FP.length c) ∧ OwnP W.heap.size w' (.slice p FP.length c) FP ∧ Below W.heap.size W w') := Lib.hid fun W hb => by
    rw [← hFP]
    exact some06_any _ _ W (hs0.after hb) (by omega)
  have HKT := Lib.hid (fun W (hb : Below w.heap.size w W) => hK.belowP hb)
  obtain ⟨rt, er, hrt⟩ : ∃ x e, rootR FP = (x, e) := ⟨_, _, rfl⟩
  have HRT : Hid (∀ v W, Pairs W v FP → KecT W → Calls Tryz.prog 7 #[v] W fun e w' => e = .returned (.tuple #[.string ⟨rt.toArray⟩, .int .i64 er]) ∧ Below W.heap.size W w') := Lib.hid fun v W hv hk => by
    have h := trieRootTop_any FP v W hv (by omega) hbig hk
    rw [hrt] at h
    exact h
  have HRF : Hid (∀ v W, Pairs W v FP → Calls Tryz.prog 8 #[v] W fun e w' => e = .returned (.tuple #[.string ⟨rt.toArray⟩, .int .i64 er]) ∧ Below W.heap.size W w') := Lib.hid fun v W hv => by
    have h := rootRef_any FP v W hv (by omega)
    rw [hrt] at h
    exact h
  obtain ⟨rb, hrb⟩ : ∃ b, rightP FP = b := ⟨_, rfl⟩
  have HRI : Hid (∀ v W, Pairs W v FP → Calls Tryz.prog 9 #[v] W fun e w' => e = .returned (.bool rb) ∧ Below W.heap.size W w') := Lib.hid fun v W hv => by
    have h := trieRight_any FP v W hv (by omega) hbig
    rw [hrb] at h
    exact h
  have HRJ : Hid (∀ v W, Pairs W v FP → Calls Tryz.prog 10 #[v] W fun e w' => e = .returned (.bool rb) ∧ Below W.heap.size W w') := Lib.hid fun v W hv => by
    have h := rightRef_any FP v W hv (by omega)
    rw [hrb] at h
    exact h
  obtain ⟨fl, hfl⟩ : ∃ n, FP.length = n := ⟨_, rfl⟩
  rw [hfl] at HS0
  clear hs0 g0 hK hl hbig hFP hlF hrt hrb hfl
  go_enter Tryz.func3, Tryz.ntmps3
  go_wp2_with fail
  refine HSH.out.mono ?_
  rintro e w1 ⟨rfl, hb1⟩
  have HB1 := Lib.hid hb1
  clear hb1 HSH
  go_wp2_with fail
  refine (HS0.out _ HB1.out).mono ?_
  rintro e w2 ⟨p2, c2, rfl, ho2, hb2⟩
  have HB2 := Lib.hid (HB1.out.trans (hb2.mono HB1.out.size))
  have HP2 := Lib.hid ho2.pairs
  clear hb2 ho2 HB1 HS0
  go_wp2_with fail
  refine (HRT.out _ _ HP2.out (HKT.out _ HB2.out)).mono ?_
  rintro e w3 ⟨rfl, hb3⟩
  have HB3 := Lib.hid (HB2.out.trans (hb3.mono HB2.out.size))
  have HP3 := Lib.hid (HP2.out.after hb3)
  clear hb3 HRT HB2 HP2
  go_wp2_with fail
  refine (HRF.out _ _ HP3.out).mono ?_
  rintro e w4 ⟨rfl, hb4⟩
  have HB4 := Lib.hid (HB3.out.trans (hb4.mono HB3.out.size))
  have HP4 := Lib.hid (HP3.out.after hb4)
  clear hb4 HRF HB3 HP3
  go_wp2_with fail
  refine (HRI.out _ _ HP4.out).mono ?_
  rintro e w5 ⟨rfl, hb5⟩
  have HB5 := Lib.hid (HB4.out.trans (hb5.mono HB4.out.size))
  have HP5 := Lib.hid (HP4.out.after hb5)
  clear hb5 HRI HB4 HP4
  go_wp2_with fail
  refine (HRJ.out _ _ HP5.out).mono ?_
  rintro e w6 ⟨rfl, hb6⟩
  have HB6 := Lib.hid (HB5.out.trans (hb6.mono HB5.out.size))
  have HP6 := Lib.hid (HP5.out.after hb6)
  clear hb6 HRJ HB5 HP5
  cases rb
  all_goals
    go_wp2_with fail
    go_ret
    exact ⟨rfl, HB6.out⟩
end Go.Proofs.YthicdhnjincflaaGreatDoor
