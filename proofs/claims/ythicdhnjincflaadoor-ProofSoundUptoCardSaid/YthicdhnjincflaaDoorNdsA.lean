/- Contracts of the reference's nodes and Nodes. -/
import Derived.Test.YthicdhnjincflaaDoorTrfF
import Derived.Test.YthicdhnjincflaaDoorNdsP
namespace Go.Proofs.YthicdhnjincflaaDoor
open Go.RowKit Go.Shelf Go.Lib
attribute [local go_sem] Oper.semAt_some

/-- the nodes of the pairs that have a half byte -/
def partN (f : Nat) (ps : List PairD) (d h : Nat) : List (List UInt8) := match havingP ps d (UInt8.ofNat h) with
  | [] => []
  | x :: m => nodesP keccakL f (x :: m) (d + 1)
theorem part_range (f : Nat) (ps : List PairD) (d k : Nat) : (List.range (k + 1)).flatMap (partN f ps d) = (List.range k).flatMap (partN f ps d) ++ partN f ps d k := by
  rw [List.range_succ, List.flatMap_append]; simp
theorem part_le (f : Nat) (ps : List PairD) (d k : Nat) (hk : k < 16) : ((List.range k).flatMap (partN f ps d)).length + (partN f ps d k).length ≤ ((List.range 16).flatMap (partN f ps d)).length := by
  have h : ∀ j, k + 1 ≤ j → ((List.range (k + 1)).flatMap (partN f ps d)).length ≤ ((List.range j).flatMap (partN f ps d)).length := by
    intro j hj
    induction j with
    | zero => omega
    | succ j ih =>
      by_cases e : j = k
      · subst e; exact Nat.le_refl _
      · rw [part_range f ps d j, List.length_append]
        have := ih (by omega)
        omega
  have h2 := h 16 (by omega)
  rw [part_range, List.length_append] at h2
  exact h2
/-- where a call stands that appends texts -/
structure HereS (base : Nat) (w : World) (v : Value) (vp : Value) (ps : List PairD) (out : List ByteArray) (u : Value) (W : World) : Prop where
  grows : GrowsS base w v out (.returned u) W
  pairs : Pairs W vp ps
  apart : ApartV vp u
set_option maxRecDepth 100000 in
set_option maxHeartbeats 12800000 in
theorem nodesRef_any (f : Nat) : ∀ (ps : List PairD) (d : Nat) (v : Value) (p : Option Addr) (c : Nat) (out : List ByteArray) (base : Nat) (w : World), Pairs w v ps → Valid ps d → Fair ps → ps.length ≤ 1000 → 129 ≤ d + f →
    OwnS base w (.slice p out.length c) out → base ≤ w.heap.size → out.length + (nodesP keccakL f ps d).length ≤ 1000000 → ApartV v (.slice p out.length c) →
    Calls Tryd.prog 46 #[.slice p out.length c, v, .int .i64 d] w (GrowsS base w (.slice p out.length c) (out ++ (nodesP keccakL f ps d).map bt)) := by
  induction f with
  | zero => intro ps d v p c out base w _ hval _ _ hfd; have := valid_le hval; omega
  | succ f ih =>
    intro ps d v p c out base w hv hval hfa hlen hfd ho hbase hol hap
    have H0 := Lib.hid (toldRef_any (f + 1) ps d v p c out base w hv hval hfa hlen hfd ho hbase (by omega))
    rw [nodes_tail, List.length_append] at hol
    rw [nodes_tail, List.map_append, ← List.append_assoc]
    obtain ⟨out1, hout⟩ : ∃ o, out ++ (toldP keccakL (f + 1) ps d).map bt = o := ⟨_, rfl⟩
    have hol1 : out1.length + (nodesTail keccakL f ps d).length ≤ 1000000 := by rw [← hout, List.length_append, List.length_map]; omega
    rw [hout] at H0 ⊢
    have hd := valid_le hval
    have HV := Lib.hid hv
    have HAP := Lib.hid hap
    obtain ⟨vp, vc, rfl⟩ := hv.form
    have HIH := Lib.hid ih
    clear ih hout hv hap ho hol
    rcases ps with _ | ⟨q, _ | ⟨q2, r⟩⟩
    · exact absurd rfl hval.1
    · show Calls _ _ _ _ (GrowsS base w _ (out1 ++ [].map bt))
      rw [List.map_nil, List.append_nil]
      clear hval hfa HV HAP
      have hlen1 : ([q] : List PairD).length = 1 := rfl
      rw [hlen1] at H0 ⊢
      go_enter Tryd.func46, Tryd.ntmps46
      go_wp2_with fail
      refine H0.out.mono ?_
      intro e w1 hg
      obtain ⟨p1, c1, rfl, -⟩ := id hg
      have HG := Lib.hid hg
      clear hg
      go_wp2
      go_ret
      exact HG.out
    · obtain ⟨-, bk, ob, rfl, -, -⟩ := HV.out.at (by simp)
      have hve := valid_ext hval
      have hkl : ∀ x ∈ q :: q2 :: r, x.1.length ≤ 64 := fun x hx => pth_len (hval.2 x hx)
      obtain ⟨PS, hPS⟩ : ∃ l, q :: q2 :: r = l := ⟨_, rfl⟩
      have hne0 : PS ≠ [] := by rw [← hPS]; simp
      have hl2' : 2 ≤ PS.length := by rw [← hPS]; simp
      have H1 := Lib.hid (fun V W (hb : Pairs W V (q :: q2 :: r)) => alikeRef_any q (q2 :: r) d V W hb hval hlen)
      have htail : nodesTail keccakL f (q :: q2 :: r) d = if 0 < alikeP (q :: q2 :: r) d then nodesP keccakL f (q :: q2 :: r) (d + alikeP (q :: q2 :: r) d)
        else (List.range 16).flatMap (partN f (q :: q2 :: r) d) := rfl
      rw [htail] at hol1
      rw [htail]
      rw [hPS] at hval hfa hlen H0 HV HAP H1 hve hkl hol1 ⊢
      obtain ⟨ln, hln⟩ : ∃ n, PS.length = n := ⟨_, rfl⟩
      rw [hln] at H0 HV HAP hl2' ⊢
      obtain ⟨n, hne⟩ : ∃ n, alikeP PS d = n := ⟨_, rfl⟩
      rw [hne] at H1 hve hol1 ⊢
      have i5 : ((ln : Int) == 1) = false := by simp; omega
      have i6 : ¬ ((ln : Int) = 1) := by omega
      by_cases hn : 0 < n
      · rw [if_pos hn] at hol1 ⊢
        obtain ⟨dn, hdn⟩ : ∃ m, d + n = m := ⟨_, rfl⟩
        rw [hdn] at hve hol1 ⊢
        have hdn2 := valid_le hve
        have e9 : (d : Int) + (n : Int) = (dn : Int) := by omega
        have i3 : (0 : Int) < n := by omega
        have hfd2 : 129 ≤ dn + f := by omega
        have HVE := Lib.hid (And.intro hve (And.intro hfa hlen))
        have hww : IntKind.i64.wrap (dn : Int) = (dn : Int) := by rw [IntKind.wrap_i64]; omega
        have hw64 : wrap64 (dn : Int) = (dn : Int) := by unfold wrap64; omega
        obtain ⟨OT, hOT⟩ : ∃ L, out1 ++ (nodesP keccakL f PS dn).map bt = L := ⟨_, rfl⟩
        rw [hOT]
        have HOT := Lib.hid hOT
        have HOL := Lib.hid hol1
        have HLN := Lib.hid hln
        have HNE := Lib.hid hne0
        clear hval hve hfa hkl hln hne hdn hlen htail hfd hOT hol1 hPS hl2' hne0
        go_enter Tryd.func46, Tryd.ntmps46
        go_wp2_with fail
        refine H0.out.mono ?_
        intro e w1 hg
        obtain ⟨p1, c1, rfl, ho1, hb1, hs1, hk1, hq1⟩ := id hg
        have HG := Lib.hid hg
        have HO1 := Lib.hid ho1
        have HA1 := Lib.hid (HAP.out.next (HV.out.blk HNE.out) hq1)
        have hpv := HV.out.keep HAP.out hs1 hk1
        have HPV := Lib.hid hpv
        have HBS := Lib.hid (show base ≤ w1.heap.size from by omega)
        clear hg ho1 hb1 hk1 hq1 hpv hs1
        go_wp2_with fail
        refine (H1.out _ _ HPV.out).mono ?_
        rintro e w2 ⟨rfl, hb2⟩
        have HB2 := Lib.hid hb2
        have HP2 := Lib.hid (HPV.out.after hb2)
        clear hb2
        go_wp2_with fail
        have hrec := HIH.out PS dn _ p1 c1 out1 base w2 HP2.out HVE.out.1 HVE.out.2.1 HVE.out.2.2 hfd2 (HO1.out.after HB2.out) (by have := HBS.out; have := HB2.out.size; omega) HOL.out HA1.out
        rw [HOT.out] at hrec
        refine hrec.mono ?_
        intro e w4 hg
        obtain ⟨p4, c4, rfl, -⟩ := id hg
        have HG4 := Lib.hid (HG.out.trans HB2.out hbase hg)
        clear hg
        go_wp2
        go_ret
        exact HG4.out
      · rw [if_neg hn] at hol1 ⊢
        have HOL1 := Lib.hid hol1
        clear hol1
        obtain rfl : n = 0 := by omega
        obtain ⟨OT, hOT⟩ : ∃ L, out1 ++ ((List.range 16).flatMap (partN f PS d)).map bt = L := ⟨_, rfl⟩
        rw [hOT]
        have HOT := Lib.hid hOT
        clear hOT
        have i0 : (0 : Int) ≤ d := by omega
        have HH := Lib.hid (fun k (hk : k < 16) m (hm : havingP PS d (UInt8.ofNat k) = m) V W (hb : Pairs W V PS) => havingRef_l PS d k hk hm V W hb hlen hkl (by omega))
        have HREC := Lib.hid (fun k x xs (he : havingP PS d (UInt8.ofNat k) = x :: xs) => And.intro (valid_having hval he) (fair_having hfa he))
        have HML := Lib.hid (fun k => Nat.le_trans (having_len PS d (UInt8.ofNat k)) hlen)
        obtain ⟨d1, hd1⟩ : ∃ n, d + 1 = n := ⟨_, rfl⟩
        have e9 : (d : Int) + 1 = (d1 : Int) := by omega
        have hw64 : wrap64 (d1 : Int) = (d1 : Int) := by unfold wrap64; omega
        have hww : IntKind.i64.wrap (d1 : Int) = (d1 : Int) := by rw [IntKind.wrap_i64]; omega
        have hfd2 : 129 ≤ d1 + f := by omega
        have HD1 := Lib.hid hd1
        have HOL := Lib.hid (fun k (hk : k < 16) => part_le f PS d k hk)
        have HLN := Lib.hid hln
        have HNE := Lib.hid hne0
        clear hval hve hfa hkl hln hne hlen htail hfd hPS hl2' hd1 hne0
        go_enter Tryd.func46, Tryd.ntmps46
        go_wp2_with fail
        refine H0.out.mono ?_
        intro e w1 hg
        obtain ⟨p1, c1, rfl, ho1, hb1, hs1, hk1, hq1⟩ := id hg
        have HG := Lib.hid hg
        have HA1 := Lib.hid (HAP.out.next (HV.out.blk HNE.out) hq1)
        have hpv := HV.out.keep HAP.out hs1 hk1
        have HPV := Lib.hid hpv
        clear hg ho1 hb1 hk1 hq1 hpv hs1
        go_wp2_with fail
        refine (H1.out _ _ HPV.out).mono ?_
        rintro e w2 ⟨rfl, hb2⟩
        have hst : HereS base w (.slice p out.length c) (.slice (some ⟨bk, ob, none⟩) ln vc) PS (out1 ++ ((List.range 0).flatMap (partN f PS d)).map bt) (.slice p1 out1.length c1) w2 := by
          rw [show (out1 ++ ((List.range 0).flatMap (partN f PS d)).map bt) = out1 by simp]
          exact ⟨HG.out.here hb2 hbase, HPV.out.after hb2, HA1.out⟩
        have HST := Lib.hid hst
        clear hb2 hst HG HA1 HPV H0 H1
        go_wp2_with fail
        go_loopw [0, 8] (fun u i wr => ∃ k : Nat, k ≤ 16 ∧ i = .int .i64 k ∧ Aside (HereS base w (.slice p out.length c) (.slice (some ⟨bk, ob, none⟩) ln vc) PS (out1 ++ ((List.range k).flatMap (partN f PS d)).map bt) u wr)) (fun _ i _ => 16 - (RowKit.intOf i).toNat)
        case atStart => exact ⟨0, by omega, rfl, HST.out⟩
        case round =>
          clear HST
          obtain ⟨k, hk, rfl, HQ⟩ := hrel
          by_cases hlt : k < 16
          · obtain ⟨ms, hms⟩ : ∃ l, havingP PS d (UInt8.ofNat k) = l := ⟨_, rfl⟩
            have HQ' := Lib.hid HQ.out
            obtain ⟨L, hL⟩ : ∃ L, out1 ++ ((List.range k).flatMap (partN f PS d)).map bt = L := ⟨_, rfl⟩
            have hq := HQ.out
            rw [hL] at hq
            obtain ⟨pu, cu, eu, hou, hbu, hsu, _, _⟩ := id hq.grows
            have eu := Ending.returned.inj eu
            subst eu
            have HQ2 := Lib.hid hq
            have HOU := Lib.hid hou
            have HLL := Lib.hid (show L.length + (partN f PS d k).length ≤ 1000000 from by rw [← hL, List.length_append, List.length_map]; have := HOL.out k hlt; have := HOL1.out; omega)
            have H2 := Lib.hid (HH.out k hlt ms hms _ wr hq.pairs)
            have HMS := Lib.hid hms
            have hml := HML.out k
            rw [hms] at hml
            have HBU := Lib.hid (show base ≤ wr.heap.size from by omega)
            have g1 : (0 : Int) ≤ k := by omega
            have g2 : (k : Int) < 16 := by omega
            have g3 : (k : Int) % 256 = k := by omega
            have hnx : out1 ++ ((List.range (k + 1)).flatMap (partN f PS d)).map bt = L ++ (partN f PS d k).map bt := by rw [part_range, List.map_append, ← List.append_assoc, hL]
            have HNX := Lib.hid hnx
            clear hms HQ HQ' hq hou hbu hsu hL hnx
            go_wp2_with fail
            refine H2.out.mono ?_
            rintro e w3 ⟨mp, mc, rfl, hom, hb3⟩
            have HQ3 := Lib.hid (show HereS base w (.slice p out.length c) (.slice (some ⟨bk, ob, none⟩) ln vc) PS L (.slice pu L.length cu) w3 from ⟨HQ2.out.grows.here hb3 hbase, HQ2.out.pairs.after hb3, HQ2.out.apart⟩)
            have HPM := Lib.hid hom.pairs
            have HB3 := Lib.hid hb3
            have hax : ApartV (.slice mp ms.length mc) (.slice pu L.length cu) := fun k e e2 => by have h1 := (hom.lt k e).1; have h2 := (HOU.out.lt k e2).2; omega
            have HAX := Lib.hid hax
            have HO3 := Lib.hid (HOU.out.after hb3)
            clear hom hb3 hax H2 HQ2 HOU
            cases ms with
            | nil =>
              have HPN := Lib.hid (show partN f PS d k = [] from by unfold partN; rw [HMS.out])
              go_wp2_with fail
              go_roundw
              case rel =>
                refine ⟨k + 1, by omega, by go_num, ?_⟩
                rw [HNX.out, HPN.out, List.map_nil, List.append_nil]
                exact HQ3.out
              case measure => simp [RowKit.intOf]; omega
            | cons x xs =>
              obtain ⟨hvx, hfx⟩ := HREC.out k x xs HMS.out
              have HPN := Lib.hid (show partN f PS d k = nodesP keccakL f (x :: xs) (d + 1) from by unfold partN; rw [HMS.out])
              rw [HD1.out] at hvx HPN
              have HVX := Lib.hid (And.intro hvx hfx)
              have hml0 : 0 < (x :: xs).length := by simp
              obtain ⟨ml, hmll⟩ : ∃ n, (x :: xs).length = n := ⟨_, rfl⟩
              rw [hmll] at hml0 hml HPM HAX ⊢
              have HMLL := Lib.hid hmll
              have g4 : ((ml : Int) == 0) = false := by simp; omega
              have g5 : ¬ ((ml : Int) = 0) := by omega
              have g6 : (0 : Int) < (ml : Int) := by omega
              clear hvx hfx hmll
              go_wp2_with fail
              have hrec := HIH.out (x :: xs) d1 (.slice mp ml mc) pu cu L base w3 HPM.out HVX.out.1 HVX.out.2 (by rw [HMLL.out]; omega) hfd2 HO3.out (by have := HBU.out; have := HB3.out.size; omega) (by have := HLL.out; rw [HPN.out] at this; exact this) HAX.out
              rw [← HPN.out, ← HNX.out] at hrec
              obtain ⟨L2, hL2⟩ : ∃ l, out1 ++ ((List.range (k + 1)).flatMap (partN f PS d)).map bt = l := ⟨_, rfl⟩
              rw [hL2] at hrec
              have HL2 := Lib.hid hL2
              clear hL2
              refine hrec.mono ?_
              intro e w4 hg
              obtain ⟨p4, c4, rfl, ho4, hb4, hs4, hk4, hq4⟩ := id hg
              have hgt := HQ3.out.grows.trans (Below.refl _ _) hbase hg
              have HQ4 := Lib.hid (show HereS base w (.slice p out.length c) (.slice (some ⟨bk, ob, none⟩) ln vc) PS L2 (.slice p4 L2.length c4) w4 from
                ⟨hgt, HQ3.out.pairs.keep HQ3.out.apart hs4 hk4, HQ3.out.apart.next (HQ3.out.pairs.blk HNE.out) hq4⟩)
              clear hg ho4 hb4 hs4 hk4 hq4 hgt
              go_wp2_with fail
              go_roundw
              case rel =>
                refine ⟨k + 1, by omega, by go_num, ?_⟩
                rw [HL2.out]
                exact HQ4.out
              case measure => simp [RowKit.intOf]; omega
          · obtain rfl : k = 16 := by omega
            have hq := HQ.out
            rw [HOT.out] at hq
            obtain ⟨pu, cu, eu, -⟩ := id hq.grows
            have eu := Ending.returned.inj eu
            subst eu
            have HQ2 := Lib.hid hq
            clear hq HQ
            go_wp2_with fail
            go_ret
            exact HQ2.out.grows
/-- pairs' nodes; else: an error -/
def nodesR (ps : List PairD) : List (List UInt8) × Int := if rightP ps then (match ps with | [] => [] | _ => nodesP keccakL 129 ps 0, 0) else ([], 60)
set_option maxRecDepth 100000 in
set_option maxHeartbeats 3200000 in
theorem nodesRefTop_any (ps : List PairD) (v : Value) (w : World) (hv : Pairs w v ps) (hlen : ps.length ≤ 1099511627775) :
    Calls Tryd.prog 19 #[v] w (TextsR w (nodesR ps).1 (nodesR ps).2) := by
  have H1 := Lib.hid (rightRef_any ps v w hv hlen)
  unfold nodesR
  obtain ⟨b, hb⟩ : ∃ b, rightP ps = b := ⟨_, rfl⟩
  rw [hb] at H1 ⊢
  cases b with
  | false =>
    show Calls _ _ _ _ (TextsR w [] 60)
    clear hb
    go_enter Tryd.func19, Tryd.ntmps19
    go_wp2_with fail
    refine H1.out.mono ?_
    rintro e w1 ⟨rfl, hb1⟩
    have HB1 := Lib.hid hb1
    clear hb1
    go_wp2_with fail
    go_ret2
    exact ⟨_, _, rfl, OwnS.nil _ _, HB1.out⟩
  | true =>
    obtain ⟨p, c, rfl⟩ := hv.form
    cases ps with
    | nil =>
      show Calls _ _ _ _ (TextsR w [] 0)
      clear hb
      go_enter Tryd.func19, Tryd.ntmps19
      go_wp2_with fail
      refine H1.out.mono ?_
      rintro e w1 ⟨rfl, hb1⟩
      have HB1 := Lib.hid hb1
      clear hb1
      go_wp2_with fail
      go_ret2
      exact ⟨_, _, rfl, OwnS.nil _ _, HB1.out⟩
    | cons q r =>
      obtain ⟨hval, hfa⟩ := right_valid hb (by simp)
      have hl200 := right_len hb
      have hnl := nodes_len (K := keccakL) 129 (q :: r) 0 (by simp)
      have H2 := Lib.hid (fun W (hp : Pairs W (.slice p (q :: r).length c) (q :: r)) => nodesRef_any 129 (q :: r) 0 _ none 0 [] W.heap.size W hp hval hfa (by omega) (by omega) (OwnS.nil _ _) (Nat.le_refl _) (by simp only [List.length_nil]; omega) (fun k _ h => by cases h))
      obtain ⟨T, hT⟩ : ∃ T, nodesP keccakL 129 (q :: r) 0 = T := ⟨_, rfl⟩
      show Calls _ _ _ _ (TextsR w (nodesP keccakL 129 (q :: r) 0) 0)
      rw [hT] at H2 ⊢
      have HV := Lib.hid hv
      obtain ⟨n, hn⟩ : ∃ n, (q :: r).length = n := ⟨_, rfl⟩
      have hn0 : 0 < n := by rw [← hn]; simp
      rw [hn] at H2 H1 HV ⊢
      have i1 : ((n : Int) == 0) = false := by simp; omega
      have i2 : ¬ ((n : Int) = 0) := by omega
      clear hb hval hfa hl200 hnl hT hv hn
      go_enter Tryd.func19, Tryd.ntmps19
      go_wp2_with fail
      refine H1.out.mono ?_
      rintro e w1 ⟨rfl, hb1⟩
      have HB1 := Lib.hid hb1
      have HV1 := Lib.hid (HV.out.after hb1)
      clear hb1
      go_wp2_with fail
      refine (H2.out _ HV1.out).mono ?_
      rintro e w2 ⟨p2, c2, rfl, ho2, hb2, hs2, -, -⟩
      rw [List.nil_append] at ho2 ⊢
      rw [List.length_map] at ho2 ⊢
      have HB2 := Lib.hid (HB1.out.trans (hb2.mono HB1.out.size))
      have HO2 := Lib.hid (ho2.base HB1.out.size)
      clear hb2 hs2 ho2
      go_wp2_with fail
      go_ret2
      exact ⟨_, _, rfl, HO2.out, HB2.out⟩
end Go.Proofs.YthicdhnjincflaaDoor
