/- The walk of ProofSound. -/
import Derived.Test.YthicdhnjincflaaDoorPonA
import Derived.Test.YthicdhnjincflaaDoorOpnP
import Derived.Test.YthicdhnjincflaaDoorFewP
import Derived.Test.YthicdhnjincflaaDoorNdsA
namespace Go.Proofs.YthicdhnjincflaaDoor
open Go.RowKit Go.Shelf Go.Lib
attribute [local go_sem] Oper.semAt_some

/-- the nodes of right pairs -/
def toldN (ps : List PairD) : List (List UInt8) := match ps with | [] => [] | _ => nodesP keccakL 129 ps 0
theorem told_small {ps : List PairD} (h : rightP ps = true) (hl : ps.length ≤ 30) : (toldN ps).length ≤ 3870 ∧ ∀ s ∈ toldN ps, s.length ≤ 20000 := by
  cases ps with
  | nil => exact ⟨by simp [toldN], fun s hs => by cases hs⟩
  | cons q r =>
    obtain ⟨hval, hfa⟩ := right_valid h (by simp)
    have h1 := nodes_len (K := keccakL) 129 (q :: r) 0 (by simp)
    refine ⟨Nat.le_trans h1 ?_, nodes_short keccakL_length 129 (q :: r) 0 hval hfa (by omega)⟩
    exact Nat.mul_le_mul_right 129 hl
theorem sound_clash {ps : List PairD} {key : List UInt8} {m : List (List UInt8)} {v : List UInt8} (h : rightP ps = true) (hc : checkP keccakL (rootP keccakL ps) key m = (v, 0)) (hn : v ≠ lookupP ps (halves key)) : HasClashK ((([128] :: toldN ps) ++ m).map fun s => (⟨s.toArray⟩ : ByteArray)) := by
  rcases check_sound (K := keccakL) keccakL_length h hc with h2 | ⟨a, ha, b, hb, h3, h4⟩
  · exact absurd h2 hn
  · refine ⟨⟨a.toArray⟩, ⟨b.toArray⟩, List.mem_map.2 ⟨a, ha, rfl⟩, List.mem_map.2 ⟨b, hb, rfl⟩, fun e => h3 (by have := congrArg (fun x : ByteArray => x.data.toList) e; simpa using this), ?_⟩
    unfold kecB
    rw [show (⟨a.toArray⟩ : ByteArray).data.toList = a from rfl, show (⟨b.toArray⟩ : ByteArray).data.toList = b from rfl, h4]
theorem right_fair {ps : List PairD} (h : rightP ps = true) : Fair ps := by
  cases ps with
  | nil => exact fun q hq => by cases hq
  | cons q r => exact (right_valid h (by simp)).2
set_option maxRecDepth 100000 in
set_option maxHeartbeats 6400000 in
theorem sound_any (v0 : Value) (l0 : List PairD) (s1 : ByteArray) (v2 : Value) (l2 : List ByteArray) (w : World) (hs0 : Pairs w v0 l0) (g0 : weightP l0 ≤ 1048576) (_ : s1.size ≤ 1048576) (hs2 : Strs w v2 l2) (g2 : weightS l2 ≤ 1048576) (hK : KecT w) :
    Calls Tryd.prog 4 #[v0, .string s1, v2] w fun e w' => e = .returned (.bool true) ∧ Below w.heap.size w w' := by
  obtain ⟨key, rfl, -⟩ := bytes_list s1
  have hn2 := weightS_len l2
  have hn0 := weightP_len l0
  obtain ⟨xs, rfl, hx⟩ := bytes_lists l2
  obtain ⟨A, hA⟩ : ∃ A, someT xs = A := ⟨_, rfl⟩
  obtain ⟨FP, hFP⟩ : ∃ A, fewP 30 l0 = A := ⟨_, rfl⟩
  have HS2 : Hid (∀ W, Below w.heap.size w W → Calls Tryd.prog 17 #[v2] W fun e w' => ∃ p c, e = .returned (.slice p A.length c) ∧ OwnS W.heap.size w' (.slice p A.length c) (A.map bt) ∧ Below W.heap.size W w') := Lib.hid fun W hb => by
    rw [← hA]
    exact some_any _ _ W (hs2.below hb) (by rw [hx]; omega)
  have HS0 : Hid (∀ W, Below w.heap.size w W → Calls Tryd.prog 16 #[v0] W fun e w' => ∃ p c, e = .returned (.slice p FP.length c) ∧ OwnP W.heap.size w' (.slice p FP.length c) FP ∧ Below W.heap.size W w') := Lib.hid fun W hb => by
    rw [← hFP]
    exact few_any _ _ W (hs0.after hb) (by omega)
  have hlA : A.length ≤ 40 := by rw [← hA]; exact someT_len _
  have hsA : ∀ s ∈ A, s.length ≤ 3000 := by rw [← hA]; exact someT_at
  have hlF : FP.length ≤ 30 := by rw [← hFP]; exact fewP_len 30 _
  obtain ⟨fn, hfn⟩ : ∃ n, FP.length = n := ⟨_, rfl⟩
  have HSH := Lib.hid (shown07_any w hK)
  have HKT := Lib.hid hK
  have HLA := Lib.hid hlA
  have HPL := Lib.hid (fun v W (hv : Pairs W v FP) => plain_any FP key v W hv (by omega))
  obtain ⟨p2, c2, rfl, hc2, _⟩ := id hs2
  obtain ⟨p0, c0, rfl⟩ := hs0.form
  obtain ⟨k2, hk2⟩ : ∃ k, (xs.map bt).length = k := ⟨_, rfl⟩
  obtain ⟨k0, hk0⟩ : ∃ k, l0.length = k := ⟨_, rfl⟩
  rw [hk2] at HS2 ⊢
  rw [hk0] at HS0 ⊢
  obtain ⟨rt, er, hrt⟩ : ∃ x e, rootR FP = (x, e) := ⟨_, _, rfl⟩
  obtain ⟨NL, en, hnl⟩ : ∃ x e, nodesR FP = (x, e) := ⟨_, _, rfl⟩
  have HRT : Hid (∀ v W, Pairs W v FP → Calls Tryd.prog 18 #[v] W fun e w' => e = .returned (.tuple #[.string ⟨rt.toArray⟩, .int .i64 er]) ∧ Below W.heap.size W w') := Lib.hid fun v W hv => by
    have h := rootRef_any FP v W hv (by omega)
    rw [hrt] at h
    exact h
  have HNL : Hid (∀ v W, Pairs W v FP → Calls Tryd.prog 19 #[v] W (TextsR W NL en)) := Lib.hid fun v W hv => by
    have h := nodesRefTop_any FP v W hv (by omega)
    rw [hnl] at h
    exact h
  obtain ⟨xa, ea, hra⟩ : ∃ x e, checkP keccakL rt key A = (x, e) := ⟨_, _, rfl⟩
  have HC2 : Hid (∀ v W, Strs W v (A.map bt) → KecT W → Calls Tryd.prog 14 #[.string ⟨rt.toArray⟩, .string ⟨key.toArray⟩, v] W fun e w' => e = .returned (.tuple #[.string ⟨xa.toArray⟩, .bool (!xa.isEmpty), .int .i64 ea]) ∧ Below W.heap.size W w') := Lib.hid fun v W hv hk => by
    have h := check_any rt key A v W hv (by omega) hk
    rw [hra] at h
    exact h
  obtain ⟨pv, pb, hpl⟩ : ∃ x e, plainP FP key = (x, e) := ⟨_, _, rfl⟩
  rw [hpl] at HPL
  have HF : Hid ((rightP FP = false ∧ er = 60) ∨ (rightP FP = true ∧ er = 0 ∧ en = 0 ∧ rt = rootP keccakL FP ∧ NL = toldN FP ∧ pb = !pv.isEmpty ∧ pv = lookupP FP (halves key))) := Lib.hid (by
    unfold rootR at hrt
    unfold nodesR at hnl
    cases hr : rightP FP with
    | false =>
      rw [hr] at hrt
      exact .inl ⟨rfl, (congrArg Prod.snd hrt).symm⟩
    | true =>
      rw [hr, if_pos rfl] at hrt hnl
      have hlk := plain_lookup (right_fair hr) key
      rw [hpl] at hlk
      have e1 := congrArg Prod.fst hlk
      have e2 := congrArg Prod.snd hlk
      dsimp only at e1 e2
      exact .inr ⟨rfl, (congrArg Prod.snd hrt).symm, (congrArg Prod.snd hnl).symm, (congrArg Prod.fst hrt).symm, (congrArg Prod.fst hnl).symm, by rw [e1]; exact e2, e1⟩)
  have HRA := Lib.hid hra
  have HLF := Lib.hid hlF
  have HSA := Lib.hid hsA
  have HFN := Lib.hid hfn
  rw [hfn] at HS0
  clear hs2 hs0 g0 g2 hK hx hn2 hn0 hA hFP hlA hsA hlF hfn hc2 hk2 hk0 hrt hnl hra hpl
  go_enter Tryd.func4, Tryd.ntmps4
  go_wp2_with fail
  refine HSH.out.mono ?_
  rintro e w1 ⟨rfl, hb1⟩
  have HB1 := Lib.hid hb1
  clear hb1 HSH
  go_wp2_with fail
  refine (HS0.out _ HB1.out).mono ?_
  rintro e w2 ⟨p4, c4, rfl, ho2, hb2⟩
  have HB2 := Lib.hid (HB1.out.trans (hb2.mono HB1.out.size))
  have HP2 := Lib.hid ho2.pairs
  clear hb2 ho2 HB1 HS0
  go_wp2_with fail
  refine (HS2.out _ HB2.out).mono ?_
  rintro e w3 ⟨p5, c5, rfl, ho3, hb3⟩
  have HB3 := Lib.hid (HB2.out.trans (hb3.mono HB2.out.size))
  have HP3 := Lib.hid (HP2.out.after hb3)
  have HO3 := Lib.hid (ho3.base HB2.out.size)
  clear hb3 ho3 HB2 HS2 HP2
  go_wp2_with fail
  refine (HRT.out _ _ HP3.out).mono ?_
  rintro e w4 ⟨rfl, hb4⟩
  have HB4 := Lib.hid (HB3.out.trans (hb4.mono HB3.out.size))
  have HP4 := Lib.hid (HP3.out.after hb4)
  have HO4 := Lib.hid (HO3.out.after hb4)
  clear hb4 HB3 HP3 HO3 HRT
  go_wp2_with fail
  refine (HNL.out _ _ HP4.out).mono ?_
  rintro e w5 ⟨p6, c6, rfl, ho5, hb5⟩
  have HB5 := Lib.hid (HB4.out.trans (hb5.mono HB4.out.size))
  have HP5 := Lib.hid (HP4.out.after hb5)
  have HO5 := Lib.hid (HO4.out.after hb5)
  have HQ5 := Lib.hid (ho5.base HB4.out.size)
  clear hb5 ho5 HB4 HP4 HO4 HNL
  rcases HF.out with ⟨-, rfl⟩ | ⟨hright, rfl, rfl, hrt, hnl, hpb, hpv⟩
  · clear HF
    go_wp2_with fail
    go_ret
    exact ⟨rfl, HB5.out⟩
  · have HRI := Lib.hid hright
    have HRR := Lib.hid hrt
    have HNN := Lib.hid hnl
    have HPV := Lib.hid hpv
    clear HF hright hrt hnl hpv
    go_wp2_with fail
    refine (HC2.out _ _ HO5.out.strs (HKT.out.belowP HB5.out)).mono ?_
    rintro e w6 ⟨rfl, hb6⟩
    have HB6 := Lib.hid (HB5.out.trans (hb6.mono HB5.out.size))
    have HP6 := Lib.hid (HP5.out.after hb6)
    have HO6 := Lib.hid (HO5.out.after hb6)
    have HQ6 := Lib.hid (HQ5.out.after hb6)
    clear hb6 HB5 HP5 HO5 HQ5 HC2
    go_wp2_with fail
    refine (HPL.out _ _ HP6.out).mono ?_
    rintro e w7 ⟨rfl, rfl⟩
    subst hpb
    by_cases hea : ea = 0
    · subst hea
      by_cases hxx : xa = pv
      · subst hxx
        go_wp2_with fail
        go_ret
        exact ⟨rfl, HB6.out⟩
      · have q1 : (xa == pv) = false := by rw [beq_eq_false_iff_ne]; exact hxx
        have q2 := neq_texts (bt_ne hxx)
        have HCL : Hid (HasClashK ([⟨#[128]⟩] ++ NL.map bt ++ A.map bt)) := Lib.hid (by
          have h := sound_clash (ps := FP) (key := key) (m := A) (v := xa) HRI.out (by rw [← HRR.out, HRA.out]) (by rw [← HPV.out]; exact hxx)
          rw [← HNN.out] at h
          rw [show [(⟨#[128]⟩ : ByteArray)] ++ NL.map bt ++ A.map bt = ((([128] :: NL) ++ A).map bt) by rw [List.map_append]; rfl]
          exact h)
        have hts := told_small HRI.out HLF.out
        rw [← HNN.out] at hts
        have HTS := Lib.hid hts
        have HSZ : Hid (∀ x ∈ [(⟨#[128]⟩ : ByteArray)] ++ NL.map bt ++ A.map bt, x.size ≤ 1099511627776) := Lib.hid fun x hx => by
          rw [List.mem_append, List.mem_append] at hx
          rcases hx with (hx | hx) | hx
          · rw [List.mem_singleton.1 hx]; decide
          · obtain ⟨s, hs, rfl⟩ := List.mem_map.1 hx
            have := HTS.out.2 s hs
            show s.length ≤ _
            omega
          · obtain ⟨s, hs, rfl⟩ := List.mem_map.1 hx
            have := HSA.out s hs
            show s.length ≤ _
            omega
        clear hts
        go_wp2_with (at_builtin; refine wpList_appendO rfl _ _ 23 rfl w.heap.size Tryd.underlying23 _ [⟨#[128]⟩] rfl (OwnS.lit w7 w.heap.size [⟨#[128]⟩] HB6.out.size (by decide)) w.heap.size _ (NL.map bt) rfl (HQ6.out.after (laid1 w7 _)) ?c0 ?c1 ?_)
        case c0 => rw [List.length_map]; have := HTS.out.1; simp; omega
        case c1 => have := HB6.out.size; simp; omega
        intro v8 w8 ho8 hg8
        have hb8 : Below w.heap.size w w8 := (HB6.out.alloc HB6.out.size _).grown hg8 (by have := HB6.out.size; simp; omega) (fun r e => by cases e; exact HB6.out.size)
        have hp8 : OwnS w.heap.size w8 (.slice p5 A.length c5) (A.map bt) := (HO6.out.after (laid1 w7 _)).kept hg8 (by
          rcases HO6.out.forms with ⟨h1, -⟩ | ⟨g, c, h1⟩
          · rw [h1]; exact .inl rfl
          · have h2 := (HO6.out.lt g (by rw [h1]; rfl)).2
            refine .inr fun h3 => ?_
            rw [h1] at h3
            have h4 : g = w7.heap.size := Option.some.inj h3
            omega)
        have HB8 := Lib.hid hb8
        change OwnS w.heap.size w8 v8 ([(⟨#[128]⟩ : ByteArray)] ++ NL.map bt) at ho8
        obtain ⟨L6, hL6⟩ : ∃ L, [(⟨#[128]⟩ : ByteArray)] ++ NL.map bt = L := ⟨_, rfl⟩
        have hn6 : L6.length = NL.length + 1 := by rw [← hL6]; simp
        rw [hL6] at ho8 HCL HSZ
        obtain ⟨p8, c8, rfl⟩ := ho8.form
        rw [hn6] at ho8
        have HO8 := Lib.hid ho8
        have HN8 := Lib.hid hn6
        have HP8 := Lib.hid hp8
        rw [hn6]
        clear hb8 ho8 hp8 hg8 HB6 HO6 HQ6 hL6 hn6
        go_wp2_with (at_builtin; refine wpList_appendO rfl _ _ 23 rfl w.heap.size Tryd.underlying23 _ _ rfl HO8.out w.heap.size _ (A.map bt) rfl HP8.out ?d0 ?d1 ?_)
        case d0 => rw [HN8.out, List.length_map]; have := HLA.out; have := HTS.out.1; omega
        case d1 => exact HB8.out.size
        intro v9 w9 ho9 hg9
        have hb9 : Below w.heap.size w w9 := HB8.out.grown hg9 HB8.out.size (fun r e => (HO8.out.lt r e).1)
        have HB9 := Lib.hid hb9
        have HS9 := Lib.hid ho9.strs
        have hln : (L6 ++ A.map bt).length ≤ 1048576 := by rw [List.length_append, HN8.out, List.length_map]; have := HLA.out; have := HTS.out.1; omega
        have HCC := Lib.hid (clash_any v9 _ w9 HS9.out hln HSZ.out)
        clear hb9 ho9 hg9 hln HO8 HP8 HB8
        go_wp2_with fail
        refine HCC.out.mono ?_
        rintro e w10 ⟨⟨b10, rfl, hb10⟩, hbl10⟩
        obtain rfl := hb10 HCL.out
        have HB10 := Lib.hid (HB9.out.trans (hbl10.mono HB9.out.size))
        clear hbl10
        go_wp2_with fail
        go_ret
        exact ⟨rfl, HB10.out⟩
    · have q1 : (ea == 0) = false := by simpa using hea
      go_wp2_with fail
      go_ret
      exact ⟨rfl, HB6.out⟩
end Go.Proofs.YthicdhnjincflaaDoor
