/- What the walks take: TrwA. -/
import Derived.Test.YthicdhnjincflaaGreatDoorU0
import Derived.Test.YthicdhnjincflaaGreatDoorU4
import Derived.Test.YthicdhnjincflaaGreatDoorU30
import Derived.Test.YthicdhnjincflaaGreatDoorU31
namespace Go.Proofs.YthicdhnjincflaaGreatDoor
open Go.RowKit Go.Shelf Go.Lib
attribute [local go_sem] Oper.semAt_some
theorem NodeAt.shown {f : Nat} {A : Nat → Prop} {w : World} {ps : List PairD} {d g : Nat} (h : NodeAt f A w ps d g) : ∃ f1, f = f1 + 1 ∧ ∃ (u vl vn : Value) (ptrs : List Nat), A g ∧
      HasCells w g [.bool (nodeP keccakL f ps d).isList, .string ⟨(nodeP keccakL f ps d).text.toArray⟩, u, .string ⟨(bytesP keccakL f ps d).toArray⟩, vl, vn] 49 ∧
      TextsIn A w vl ((kidsP ps d).map fun k => (⟨k.1.toArray⟩ : ByteArray)) ∧ PtrsIn A w vn ptrs ∧ ptrs.length = (kidsP ps d).length ∧
      ∀ (j : Nat) k, (kidsP ps d)[j]? = some k → ∃ gk, ptrs[j]? = some gk ∧ NodeAt f1 A w k.2.1 k.2.2 gk := by
  cases f with
  | zero => exact h.elim
  | succ f =>
    obtain ⟨u, vl, vn, ptrs, h0, h1, h2, h3, h4, h5, h6⟩ := h
    exact ⟨f, rfl, u, vl, vn, ptrs, h0, h1, h3, h4, h5, h6⟩
set_option maxRecDepth 100000 in
set_option maxHeartbeats 6400000 in
theorem trieRootTop_any (ps : List PairD) (v : Value) (w : World) (hv : Pairs w v ps) (hN : ps.length ≤ 1099511627775) (hB : ∀ q ∈ ps, q.1.length ≤ 1099511627776 ∧ q.2.length ≤ 1099511627776) (hK : KecT w) :
    Calls Tryz.prog 7 #[v] w fun e w' => e = .returned (.tuple #[.string ⟨(rootR ps).1.toArray⟩, .int .i64 (rootR ps).2]) ∧ Below w.heap.size w w' := by
  have H1 := Lib.hid (trieRight_any ps v w hv hN hB)
  unfold rootR
  obtain ⟨b, hb⟩ : ∃ b, rightP ps = b := ⟨_, rfl⟩
  rw [hb] at H1 ⊢
  cases b with
  | false =>
    show Calls _ _ _ _ (fun e w' => e = .returned (.tuple #[.string ⟨#[]⟩, .int .i64 60]) ∧ Below w.heap.size w w')
    clear hv hb hB hN hK
    go_enter Tryz.func7, Tryz.ntmps7
    go_wp2_with fail
    refine H1.out.mono ?_
    rintro e w1 ⟨rfl, hb1⟩
    have HB1 := Lib.hid hb1
    clear hb1
    go_wp2
    go_ret2
    exact ⟨rfl, HB1.out⟩
  | true =>
    show Calls _ _ _ _ (fun e w' => e = .returned (.tuple #[.string ⟨(rootP keccakL ps).toArray⟩, .int .i64 0]) ∧ Below w.heap.size w w')
    obtain ⟨rt, hrt⟩ : ∃ r, rootP keccakL ps = r := ⟨_, rfl⟩
    rw [hrt]
    have HRV := Lib.hid hrt
    clear hrt
    have HV := Lib.hid hv
    have HRO : Hid (∀ W, Below w.heap.size w W → Calls Tryz.prog 18 #[v] W (RootIs W ps)) := Lib.hid fun W h => trieRoot_any ps v W (hv.after h) hb (hK.belowP h)
    have HKT := Lib.hid (fun W (hb : Below w.heap.size w W) => hK.belowP hb)
    have HRT := Lib.hid hb
    clear hv hb hB hN hK
    go_enter Tryz.func7, Tryz.ntmps7
    go_wp2_with fail
    refine H1.out.mono ?_
    rintro e w1 ⟨rfl, hb1⟩
    have HB1 := Lib.hid hb1
    clear hb1
    go_wp2_with fail
    refine (HRO.out _ HB1.out).mono ?_
    rintro e w2 ⟨hb2, ⟨he, rfl⟩ | ⟨hne, g, qs, rfl, hpm, hn⟩⟩
    · have HB2 := Lib.hid (HB1.out.trans (hb2.mono HB1.out.size))
      subst he
      obtain ⟨r, hr⟩ : ∃ r, keccakL [128] = r := ⟨_, rfl⟩
      have HKR := Lib.hid (kecOne_l hr w2.heap.size 0 _ (cells_at w2 [.string ⟨#[128]⟩] 9 0 _ rfl) (by decide) (HKT.out _ (HB2.out.alloc HB2.out.size _)))
      obtain rfl : r = rt := by rw [← HRV.out, ← hr]; rfl
      clear hb2 hr
      go_wp2_with fail
      refine HKR.out.mono ?_
      rintro e w3 ⟨rfl, hb3⟩
      have HB3 := Lib.hid ((HB2.out.alloc HB2.out.size (.cells #[.string ⟨#[128]⟩] 9)).trans (hb3.mono (by have := HB2.out.size; simp; omega)))
      clear hb3
      go_wp2
      go_ret2
      exact ⟨rfl, HB3.out⟩
    · have HB2 := Lib.hid (HB1.out.trans (hb2.mono HB1.out.size))
      obtain ⟨f1, hf1, u, vl, vn, ptrs, hg, hcl, -⟩ := hn.shown
      have hby : bytesP keccakL 129 qs 0 = bytesP keccakL 129 ps 0 := bytes_perm 129 hpm (right_even ((right_perm hpm).trans HRT.out))
      rw [hby] at hcl
      obtain ⟨by_, hbye⟩ : ∃ b, bytesP keccakL 129 ps 0 = b := ⟨_, rfl⟩
      have hsm : by_.length ≤ 20000 := by
        obtain ⟨hv2, hf2⟩ := right_valid HRT.out hne
        have := told_len (K := keccakL) keccakL_length 129 ps 0 hv2 hf2 (by omega) by_ (by unfold toldP; rw [if_pos (.inl rfl), hbye]; simp)
        exact this
      rw [hbye] at hcl
      have h3 := hcl.cell (j := 3) rfl
      obtain ⟨r, hr⟩ : ∃ r, keccakL by_ = r := ⟨_, rfl⟩
      obtain rfl : r = rt := by rw [← HRV.out, root_cons (K := keccakL) hne, hbye, hr]
      have HKR := Lib.hid (kecOne_l hr w2.heap.size 0 _ (cells_at w2 [.string ⟨by_.toArray⟩] 9 0 _ rfl) (by omega) (HKT.out _ (HB2.out.alloc HB2.out.size _)))
      clear hb2 hr hn hcl hg hf1 hpm hby hbye hsm hne
      go_wp2_with fail
      refine HKR.out.mono ?_
      rintro e w3 ⟨rfl, hb3⟩
      have HB3 := Lib.hid ((HB2.out.alloc HB2.out.size (.cells #[.string ⟨by_.toArray⟩] 9)).trans (hb3.mono (by have := HB2.out.size; simp; omega)))
      clear hb3 h3
      go_wp2
      go_ret2
      exact ⟨rfl, HB3.out⟩
def RoundP (B : Nat) (A : Nat → Prop) (W0 : World) (path : List UInt8) (tot : List (List UInt8)) (f : Nat) (out pv xv fv : Value) (wr : World) : Prop :=
  ∃ L : List (List UInt8), OwnS B wr out (L.map bt) ∧ Below B W0 wr ∧ L.length + f ≤ 129 ∧
   ((xv = .pointer none ∧ tot = L) ∨ ∃ qs d g, xv = .pointer (some ⟨g, 0, none⟩) ∧ NodeAt f A W0 qs d g ∧ pv = .string ⟨(path.drop d).toArray⟩ ∧ fv = .bool (decide (d = 0)) ∧ Valid qs d ∧ tot = L ++ wayP keccakL f qs d path)
theorem TextsR.of {w wr : World} {B : Nat} {p : Option Addr} {n c : Nat} {L : List (List UInt8)} (ho : OwnS B wr (.slice p n c) (L.map bt)) (hB : w.heap.size ≤ B) (hb : Below w.heap.size w wr) : TextsR w L 0 (.returned (.tuple #[.slice p n c, .int .i64 0])) wr := by
  obtain ⟨p2, c2, hv⟩ := ho.form
  rw [List.length_map] at hv
  rw [hv] at ho ⊢
  exact ⟨p2, c2, rfl, ho.base hB, hb⟩
theorem prefix_has {a b : List UInt8} : Lib.hasPrefix a b = true ↔ b <+: a := List.isPrefixOf_iff_prefix
set_option maxRecDepth 100000 in
set_option maxHeartbeats 12800000 in
theorem trieProve_any (ps : List PairD) (key : List UInt8) (v : Value) (w : World) (hv : Pairs w v ps) (hN : ps.length ≤ 1099511627775) (hB : ∀ q ∈ ps, q.1.length ≤ 1099511627776 ∧ q.2.length ≤ 1099511627776) (hk : key.length ≤ 1073741824) (hK : KecT w) :
    Calls Tryz.prog 13 #[v, .string ⟨key.toArray⟩] w (TextsR w (proveR ps key).1 (proveR ps key).2) := by
  have H1 := Lib.hid (trieRight_any ps v w hv hN hB)
  unfold proveR
  obtain ⟨b, hb⟩ : ∃ b, rightP ps = b := ⟨_, rfl⟩
  rw [hb] at H1 ⊢
  cases b with
  | false =>
    show Calls _ _ _ _ (TextsR w [] 60)
    clear hv hb hB hN hK hk
    go_enter Tryz.func13, Tryz.ntmps13
    go_wp2_with fail
    refine wp_scope_straight ?_
    go_wp2_with fail
    refine H1.out.mono ?_
    rintro e w1 ⟨rfl, hb1⟩
    have HB1 := Lib.hid hb1
    clear hb1
    go_wp2_with fail
    simp only [Exit.noGoto]
    change bodyPost _ _ _ Exit.ret _ _
    go_ret2
    exact ⟨none, 0, rfl, OwnS.nil _ _, HB1.out⟩
  | true =>
    obtain ⟨tot, htot⟩ : ∃ t, (match ps with | [] => [] | _ => wayP keccakL 129 ps 0 (halves key)) = t := ⟨_, rfl⟩
    show Calls _ _ _ _ (TextsR w (match ps with | [] => [] | _ => wayP keccakL 129 ps 0 (halves key)) 0)
    rw [htot]
    have HV := Lib.hid hv
    have HRO : Hid (∀ W, Below w.heap.size w W → Calls Tryz.prog 18 #[v] W (RootIs W ps)) := Lib.hid fun W h => trieRoot_any ps v W (hv.after h) hb (hK.belowP h)
    have HOF : Hid (∀ W, Calls Tryz.prog 23 #[.string ⟨key.toArray⟩] W fun e w' => e = .returned (.string ⟨(halves key).toArray⟩) ∧ Below W.heap.size W w') := Lib.hid fun W => of_any ⟨key.toArray⟩ W (by show key.length ≤ _; omega)
    have HRT := Lib.hid hb
    have hpp := isPath_halves key
    obtain ⟨path, hpath⟩ : ∃ p, halves key = p := ⟨_, rfl⟩
    have hpl : path.length ≤ 2147483648 := by rw [← hpath, halves_length]; omega
    rw [hpath] at htot HOF hpp
    have HTO := Lib.hid htot
    have HPP := Lib.hid hpp
    have HPL := Lib.hid hpl
    clear hv hb hB hN hK hk hpath htot hpp hpl
    go_enter Tryz.func13, Tryz.ntmps13
    go_wp2_with fail
    refine wp_scope_straight ?_
    go_wp2_with fail
    refine H1.out.mono ?_
    rintro e w1 ⟨rfl, hb1⟩
    have HB1 := Lib.hid hb1
    clear hb1
    go_wp2_with fail
    refine (HOF.out _).mono ?_
    rintro e w2 ⟨rfl, hb2⟩
    have HB2 := Lib.hid (HB1.out.trans (hb2.mono HB1.out.size))
    clear hb2
    go_wp2_with fail
    refine (HRO.out _ HB2.out).mono ?_
    rintro e w3 hro
    obtain ⟨xv, rfl, HB3, HST⟩ : ∃ xv, e = .returned (.pointer xv) ∧ Hid (Below w.heap.size w w3) ∧ Hid (∀ w4, Below w3.heap.size w3 w4 → RoundP w3.heap.size (fun k => k < w3.heap.size) w3 path tot 129 (.slice none 0 0) (.string ⟨path.toArray⟩) (.pointer xv) (.bool true) w4) := by
      obtain ⟨hb3, ⟨he, rfl⟩ | ⟨hne, g, qs, rfl, hpm, hn⟩⟩ := hro
      · refine ⟨none, rfl, Lib.hid (HB2.out.trans (hb3.mono HB2.out.size)), Lib.hid fun w4 h4 => ⟨[], OwnS.nil _ _, h4, by simp, .inl ⟨rfl, ?_⟩⟩⟩
        rw [← HTO.out, he]
      · refine ⟨some ⟨g, 0, none⟩, rfl, Lib.hid (HB2.out.trans (hb3.mono HB2.out.size)), Lib.hid fun w4 h4 => ⟨[], OwnS.nil _ _, h4, by simp, .inr ⟨qs, 0, g, rfl, hn.kept (fun _ _ => rfl) (fun k hk => hk.2), rfl, rfl, ?_, ?_⟩⟩⟩
        · exact (right_valid ((right_perm hpm).trans HRT.out) (fun e => hne (List.nil_perm.1 (e ▸ hpm)))).1
        · rw [← HTO.out, List.nil_append, way_perm 129 path hpm (right_even ((right_perm hpm).trans HRT.out))]
          cases ps with
          | nil => exact absurd rfl hne
          | cons a r => rfl
    clear hro
    go_wp2_with fail
    refine wp_label ?_
    go_wp2_with fail
    go_loopg [6, 7, 8, 9] 129 (fun gg ov pv xv fv wr => Aside (RoundP w3.heap.size (fun k => k < w3.heap.size) w3 path tot gg ov pv xv fv wr) ∧ (∃ p c n, ov = .slice p n c) ∧ (∃ s, pv = .string s) ∧ (∃ x, xv = .pointer x) ∧ ∃ b, fv = .bool b)
    case atStart => exact ⟨HST.out _ (Below.refl _ _), ⟨_, _, _, rfl⟩, ⟨_, rfl⟩, ⟨_, rfl⟩, ⟨_, rfl⟩⟩
    case round =>
      obtain ⟨HR, ⟨op, oc, on, rfl⟩, ⟨sp, rfl⟩, ⟨xp, rfl⟩, fb, rfl⟩ := hrel
      obtain ⟨L, ho, hb, hll, hor⟩ := HR.out
      rcases hor with ⟨hx, htot⟩ | ⟨qs, d, g, hx, hn, hp, hf, hval, htot⟩
      · cases hx
        have HO := Lib.hid ho
        have HB := Lib.hid hb
        have HTT := Lib.hid htot
        clear ho hb htot HR
        go_wp2_with fail
        simp only [Exit.noGoto]
        change bodyPost _ _ _ Exit.ret _ _
        go_ret2
        rw [HTT.out]
        exact TextsR.of HO.out HB3.out.size (HB3.out.trans (HB.out.mono HB3.out.size))
      · cases hx
        cases hp
        cases hf
        obtain ⟨f1, rfl, u, vl, vn, ptrs, hg, hcl, htx, hpn, hpl, hkid⟩ := hn.shown
        have htl : wayP keccakL (f1 + 1) qs d path = toldP keccakL (f1 + 1) qs d ++ wayTail keccakL f1 qs d path := way_tail keccakL f1 qs d path
        have htd : toldP keccakL (f1 + 1) qs d = if d = 0 ∨ 32 ≤ (bytesP keccakL (f1 + 1) qs d).length then [bytesP keccakL (f1 + 1) qs d] else [] := rfl
        obtain ⟨by_, hby⟩ : ∃ b, bytesP keccakL (f1 + 1) qs d = b := ⟨_, rfl⟩
        rw [hby] at hcl htd
        have hwn := fun h => way_none (K := keccakL) (f := f1) (ps := qs) (d := d) HPP.out h
        have hwk := fun x (hx : x ∈ kidsP qs d) h => way_kid (K := keccakL) (f := f1) (path := path) hx h
        have hsp := fun x (hx : x ∈ kidsP qs d) => kids_spec hval hx
        obtain ⟨tl, htle⟩ : ∃ l, wayTail keccakL f1 qs d path = l := ⟨_, rfl⟩
        obtain ⟨ks, hks⟩ : ∃ l, kidsP qs d = l := ⟨_, rfl⟩
        rw [hks] at hsp hpl hkid htx hwn hwk
        rw [htle] at htl hwn
        simp only [htle] at hwk
        obtain ⟨tp, tc, hvl, hto⟩ := htx
        obtain ⟨pp, pc, hvn, hpo⟩ := hpn
        obtain ⟨n, hn0⟩ : ∃ n, ks.length = n := ⟨_, rfl⟩
        rw [List.length_map, hn0] at hvl
        rw [hn0] at hpl
        rw [hpl] at hvn
        subst hvl hvn
        obtain ⟨x0, x1, x2, hcl⟩ : ∃ x0 x1 x2, HasCells w3 g [x0, x1, x2, .string ⟨by_.toArray⟩, .slice tp n tc, .slice pp n pc] 49 := ⟨_, _, _, hcl⟩
        obtain ⟨pd, hpd⟩ : ∃ l, path.drop d = l := ⟨_, rfl⟩
        rw [hpd] at hwn hwk
        rw [hpd]
        have HCL := Lib.hid hcl
        have HO := Lib.hid ho
        have HB := Lib.hid hb
        have HK := Lib.hid hkid
        have HSP := Lib.hid hsp
        have HTX := Lib.hid hto
        have HPO := Lib.hid hpo
        have HN := Lib.hid hn0
        have HPL2 := Lib.hid hpl
        have HPD := Lib.hid hpd
        have HWN := Lib.hid hwn
        have HWK := Lib.hid hwk
        have HVL := Lib.hid hval
        have hsz : (⟨by_.toArray⟩ : ByteArray).size = by_.length := rfl
        obtain ⟨bl, hbl⟩ : ∃ n, by_.length = n := ⟨_, rfl⟩
        rw [hbl] at hsz htd
        rw [htl, htd] at htot
        have hnl : n ≤ 1000000 := by
          rw [← hn0, ← hks]
          exact Nat.le_trans (kids_len qs d) (by omega)
        clear hn hkid hsp hto hpo hn0 hpl hcl ho hb hval htl htd htle hks hpd hwn hwk hby hbl HR
        have hcase : (d = 0 ∨ 32 ≤ bl) ∨ ¬ (d = 0 ∨ 32 ≤ bl) := Classical.em _
        rcases hcase with hc | hc
        · rw [if_pos hc] at htot
          have htot2 : tot = (L ++ [by_]) ++ tl := by rw [htot]; simp
          have HTa := Lib.hid htot2
          have hc2 : d = 0 ∨ (decide (d = 0) = false ∧ (32 : Int) ≤ bl) := by
            by_cases h0 : d = 0
            · exact .inl h0
            · exact .inr ⟨by simp [h0], by omega⟩
          have h3 := (HCL.out.kept (HB.out.block g hg)).cell (j := 3) rfl
          have HLa : Hid ((L ++ [by_]).length + f1 ≤ 129) := Lib.hid (by simp; omega)
          obtain ⟨wo, hwo⟩ : ∃ wo : World, wo = wr := ⟨_, rfl⟩
          rw [← hwo] at HO HB h3 ⊢
          obtain ⟨q0, q1, hq⟩ := HO.out.form
          obtain ⟨ll, hll⟩ : ∃ n, (L.map bt).length = n := ⟨_, rfl⟩
          rw [hll] at hq
          cases hq
          have HLL := Lib.hid hll
          clear hc htot htot2 hll hwo
          rcases hc2 with hd0 | ⟨h1, h32⟩
          · rw [show decide (d = 0) = true from decide_eq_true hd0]
            clear hd0
            go_wp2_with (at_builtin; refine wpList_appendTs rfl _ _ 29 rfl w3.heap.size Tryz.underlying29 infoStr _ (L.map bt) rfl (HO.out.after (laid1 _ _)) ⟨wo.heap.size, 0, none⟩ 1 1 [bt by_] rfl rfl ?c0 ?c1 ?c2 ?_)
            case c0 => exact fun j u hu => one_at hu (by rintro rfl rfl; first | rfl | (rw [addr_add']; exact cells_at wo [.string ⟨by_.toArray⟩] _ 0 _ rfl))
            case c1 => first | omega | (rw [List.length_map]; omega)
            case c2 => have := HB.out.size; simp; omega
            intro v3 wa ho3 hg3 _
            have hlb : (L.map bt ++ [bt by_]).length = on + 1 := by rw [List.length_append, HLL.out]; rfl
            have hba : Below w3.heap.size w3 wa := (HB.out.alloc HB.out.size _).grown hg3 (by have := HB.out.size; simp; omega) (fun r e => (HO.out.lt r e).1)
            rw [show L.map bt ++ [bt by_] = (L ++ [by_]).map bt from by simp] at ho3 hlb
            obtain ⟨p5, c5_, rfl⟩ := ho3.form
            rw [hlb] at ho3 ⊢
            have HOa := Lib.hid ho3
            have HBa := Lib.hid hba
            have c4 := (HCL.out.kept (hba.block g hg)).cell (j := 4) rfl
            clear ho3 hg3 hba hlb
            go_wp2_with fail
            clear h3
            go_loopg [7, 8, 44] n (fun g2 pv xv iv wi => pv = .string ⟨pd.toArray⟩ ∧ xv = .pointer (some ⟨g, 0, none⟩) ∧ ∃ k : Nat, k + g2 = n ∧ iv = .int .i64 k ∧ Aside (∀ j x, j < k → ks[j]? = some x → ¬ x.1 <+: pd) ∧ Aside (wi = wa))
            case atStart => exact ⟨rfl, rfl, 0, by omega, rfl, fun _ _ h => absurd h (Nat.not_lt_zero _), rfl⟩
            case round =>
              obtain ⟨rfl, rfl, k, hkn, rfl, HNO, HWE⟩ := hrel
              obtain rfl : wa = wr := HWE.out.symm
              by_cases hlt : k < n
              · obtain ⟨x, hx⟩ : ∃ x, ks[k]? = some x := ⟨_, List.getElem?_eq_getElem (by rw [HN.out]; exact hlt)⟩
                obtain ⟨gy, hgy, hny⟩ := HK.out k x hx
                obtain ⟨tb, to_, rfl, htb, htc⟩ := HTX.out.resolve_left (fun e => by have := congrArg List.length e; rw [List.length_map, HN.out] at this; simp at this; omega)
                obtain ⟨pb, po, rfl, hpb, hpc⟩ := HPO.out.resolve_left (fun e => by have := HPL2.out; rw [e] at this; simp at this; omega)
                have hxm := HSP.out x (List.mem_of_getElem? hx)
                have e1 := (HBa.out.cell (p := ⟨tb, to_ + k, none⟩) htb).trans (htc k _ (by rw [List.getElem?_map, hx]; rfl))
                have e2 := (HBa.out.cell (p := ⟨pb, po + k, none⟩) hpb).trans (hpc k gy hgy)
                unfold ptrN at e2
                obtain ⟨tr, htr⟩ : ∃ t, Lib.trimPrefix pd x.1 = t := ⟨_, rfl⟩
                obtain ⟨hp, hhp⟩ : ∃ t, Lib.hasPrefix pd x.1 = t := ⟨_, rfl⟩
                have HCP := Lib.hid (fun W => cut_l htr hhp W)
                have g1 : (0 : Int) ≤ k := by omega
                have g2_ : (k : Int) < n := by omega
                cases hp with
                | true =>
                  have hpre := prefix_has.1 hhp
                  have hfin : RoundP w3.heap.size (fun k => k < w3.heap.size) w3 path tot f1 (.slice p5 (on + 1) c5_) (.string ⟨tr.toArray⟩) (.pointer (some ⟨gy, 0, none⟩)) (.bool false) wa.drew := by
                    refine ⟨L ++ [by_], HOa.out.of_block (fun _ _ => rfl), HBa.out.drew, HLa.out, .inr ⟨x.2.1, x.2.2, gy, rfl, hny, ?_, ?_, hxm.2.2.2.1, by rw [HTa.out, HWK.out x (List.mem_of_getElem? hx) hpre]⟩⟩
                    · rw [← htr, Lib.trimPrefix, if_pos hhp, ← HPD.out, List.drop_drop, hxm.1]
                    · have h5 := hxm.1
                      have h6 : x.1.length ≠ 0 := fun e => hxm.2.1 (List.eq_nil_of_length_eq_zero e)
                      rw [show decide (x.2.2 = 0) = false from by simp; omega]
                  have HF := Lib.hid hfin
                  clear hfin hpre hxm hny hgy hx htr hhp htc hpc
                  go_wp2_with fail
                  refine (HCP.out _).mono ?_
                  rintro e w5 ⟨rfl, rfl⟩
                  go_wp2_with fail
                  refine wp_region_held_drew (S := (fun W => W.cell? ⟨g, 5, none⟩ = some (.slice (some ⟨pb, po, none⟩) n pc) ∧ W.cell? ⟨pb, po + k, none⟩ = some (.pointer (some ⟨gy, 0, none⟩)))) (by kernel_rfl) (⟨((HCL.out.kept (HBa.out.block g hg)).kept rfl : HasCells w5.drew _ _ 49).cell (j := 5) rfl, e2⟩) (fun hHeld => ?_)
                  refine wpAnyH_take (i := 0) (v := ?_) rfl (by kernel_rfl) (by kernel_rfl) (by kernel_rfl) (fun _ _ _ h => h) (.inl ⟨by rfl, ?_⟩) (by assumption) ?_
                  rotate_left 1
                  · intro w0 hSw
                    go_simp <;> with_reducible rfl
                  try simp only [Act.put, zq1, zq2, zq4, zq5, zq6]
                  refine wpAnyH_take (i := 1) (v := ?_) rfl (by kernel_rfl) (by kernel_rfl) (by kernel_rfl) (fun _ _ _ h => h) (.inl ⟨by rfl, ?_⟩) (by assumption) ?_
                  rotate_left 1
                  · intro w0 hSw
                    go_simp <;> with_reducible rfl
                  try simp only [Act.put, zq1, zq2, zq3, zq4, zq5, zq6]
                  refine wpAnyH_take (i := 2) (v := ?_) rfl (by kernel_rfl) (by kernel_rfl) (by kernel_rfl) (fun _ _ _ h => h) (.inl ⟨by rfl, ?_⟩) (by assumption) ?_
                  rotate_left 1
                  · intro w0 hSw
                    go_simp <;> with_reducible rfl
                  try simp only [Act.put, zq1, zq2, zq3, zq4, zq5, zq6]
                  refine wpAnyH_take (i := 3) (v := ?_) rfl (by kernel_rfl) (by kernel_rfl) (by kernel_rfl) (fun _ _ _ h => h) (.inl ⟨by rfl, ?_⟩) (by assumption) ?_
                  rotate_left 1
                  · intro w0 hSw
                    go_simp <;> with_reducible rfl
                  try simp only [Act.put, zq1, zq2, zq3, zq4, zq5, zq6]
                  refine wpAnyH_take (i := 4) (v := ?_) rfl (by kernel_rfl) (by kernel_rfl) (by kernel_rfl) (fun _ _ _ h => h) (.inl ⟨by rfl, ?_⟩) (by assumption) ?_
                  rotate_left 1
                  · intro w0 hSw
                    obtain ⟨z0, z1⟩ := hSw
                    go_simp <;> with_reducible rfl
                  try simp only [Act.put, zq1, zq2, zq3, zq4, zq5, zq6]
                  refine wpAnyH_take (i := 5) (v := ?_) rfl (by kernel_rfl) (by kernel_rfl) (by kernel_rfl) (fun _ _ _ h => h) (.inl ⟨by rfl, ?_⟩) (by assumption) ?_
                  rotate_left 1
                  · intro w0 hSw
                    go_simp <;> with_reducible rfl
                  try simp only [Act.put, zq1, zq2, zq3, zq4, zq5, zq6]
                  refine wpAnyH_take (i := 6) (v := ?_) rfl (by kernel_rfl) (by kernel_rfl) (by kernel_rfl) (fun _ _ _ h => h) (.inl ⟨by rfl, ?_⟩) (by assumption) ?_
                  rotate_left 1
                  · intro w0 hSw
                    go_simp <;> with_reducible rfl
                  try simp only [Act.put, zq1, zq2, zq3, zq4, zq5, zq6]
                  refine wpAnyH_take (i := 7) (v := ?_) rfl (by kernel_rfl) (by kernel_rfl) (by kernel_rfl) (fun _ _ _ h => h) (.inl ⟨by rfl, ?_⟩) (by assumption) ?_
                  rotate_left 1
                  · intro w0 hSw
                    obtain ⟨z0, z1⟩ := hSw
                    go_simp <;> with_reducible rfl
                  try simp only [Act.put, zq1, zq2, zq3, zq4, zq5, zq6]
                  refine wpAnyH_take (i := 8) (v := ?_) rfl (by kernel_rfl) (by kernel_rfl) (by kernel_rfl) (fun _ _ _ h => h) (.inl ⟨by rfl, ?_⟩) (by assumption) ?_
                  rotate_left 1
                  · intro w0 hSw
                    go_simp <;> with_reducible rfl
                  try simp only [Act.put, zq1, zq2, zq3, zq4, zq5, zq6]
                  refine wpAnyH_take (i := 9) (v := ?_) rfl (by kernel_rfl) (by kernel_rfl) (by kernel_rfl) (fun _ _ _ h => h) (.inl ⟨by rfl, ?_⟩) (by assumption) ?_
                  rotate_left 1
                  · intro w0 hSw
                    go_simp <;> with_reducible rfl
                  try simp only [Act.put, zq1, zq2, zq3, zq4, zq5, zq6]
                  refine wpAnyH_done (by kernel_rfl) ?_ 0
                  go_wp2_with fail
                  go_roundg f1
                  case measure => omega
                  case rel => exact ⟨HF.out, ⟨_, _, _, rfl⟩, ⟨_, rfl⟩, ⟨_, rfl⟩, ⟨_, rfl⟩⟩
                | false =>
                  have hno : ∀ j y, j < k + 1 → ks[j]? = some y → ¬ y.1 <+: pd := by
                    intro j y hj hy
                    by_cases hjk : j < k
                    · exact HNO.out j y hjk hy
                    · obtain rfl : j = k := by omega
                      rw [hx] at hy
                      cases hy
                      intro h
                      rw [prefix_has.2 h] at hhp
                      cases hhp
                  have HNO2 := Lib.hid hno
                  clear hno hxm hny hgy hx htr hhp htc hpc e2
                  go_wp2_with fail
                  refine (HCP.out _).mono ?_
                  rintro e w5 ⟨rfl, rfl⟩
                  go_wp2_with fail
                  go_roundg (n - k - 1)
                  case measure => omega
                  case rel => exact ⟨rfl, rfl, k + 1, by omega, by go_num, HNO2.out, rfl⟩
              · have hmk : k = n := by omega
                have htn : tl = [] := HWN.out (fun x hx => by
                  obtain ⟨j, hj, hjx⟩ := List.getElem_of_mem hx
                  exact HNO.out j x (by rw [hmk, ← HN.out]; exact hj) (by rw [List.getElem?_eq_getElem hj, hjx]))
                have HTN := Lib.hid htn
                obtain ⟨k2, hk2⟩ : ∃ k2, k2 = n := ⟨_, rfl⟩
                rw [hmk]
                clear htn hmk hkn
                go_wp2_with fail
                try simp only [Exit.noGoto]
                change bodyPost _ _ _ Exit.ret _ _
                go_ret2
                rw [HTa.out, HTN.out, List.append_nil]
                exact TextsR.of HOa.out HB3.out.size (HB3.out.trans (HBa.out.mono HB3.out.size))
          · rw [h1]
            clear h1
            go_wp2_with (at_builtin; refine wpList_appendTs rfl _ _ 29 rfl w3.heap.size Tryz.underlying29 infoStr _ (L.map bt) rfl (HO.out.after (laid1 _ _)) ⟨wo.heap.size, 0, none⟩ 1 1 [bt by_] rfl rfl ?c0 ?c1 ?c2 ?_)
            case c0 => exact fun j u hu => one_at hu (by rintro rfl rfl; first | rfl | (rw [addr_add']; exact cells_at wo [.string ⟨by_.toArray⟩] _ 0 _ rfl))
            case c1 => first | omega | (rw [List.length_map]; omega)
            case c2 => have := HB.out.size; simp; omega
            intro v3 wa ho3 hg3 _
            have hlb : (L.map bt ++ [bt by_]).length = on + 1 := by rw [List.length_append, HLL.out]; rfl
            have hba : Below w3.heap.size w3 wa := (HB.out.alloc HB.out.size _).grown hg3 (by have := HB.out.size; simp; omega) (fun r e => (HO.out.lt r e).1)
            rw [show L.map bt ++ [bt by_] = (L ++ [by_]).map bt from by simp] at ho3 hlb
            obtain ⟨p5, c5_, rfl⟩ := ho3.form
            rw [hlb] at ho3 ⊢
            have HOa := Lib.hid ho3
            have HBa := Lib.hid hba
            have c4 := (HCL.out.kept (hba.block g hg)).cell (j := 4) rfl
            clear ho3 hg3 hba hlb
            go_wp2_with fail
            clear h3
            go_loopg [7, 8, 44] n (fun g2 pv xv iv wi => pv = .string ⟨pd.toArray⟩ ∧ xv = .pointer (some ⟨g, 0, none⟩) ∧ ∃ k : Nat, k + g2 = n ∧ iv = .int .i64 k ∧ Aside (∀ j x, j < k → ks[j]? = some x → ¬ x.1 <+: pd) ∧ Aside (wi = wa))
            case atStart => exact ⟨rfl, rfl, 0, by omega, rfl, fun _ _ h => absurd h (Nat.not_lt_zero _), rfl⟩
            case round =>
              obtain ⟨rfl, rfl, k, hkn, rfl, HNO, HWE⟩ := hrel
              obtain rfl : wa = wr := HWE.out.symm
              by_cases hlt : k < n
              · obtain ⟨x, hx⟩ : ∃ x, ks[k]? = some x := ⟨_, List.getElem?_eq_getElem (by rw [HN.out]; exact hlt)⟩
                obtain ⟨gy, hgy, hny⟩ := HK.out k x hx
                obtain ⟨tb, to_, rfl, htb, htc⟩ := HTX.out.resolve_left (fun e => by have := congrArg List.length e; rw [List.length_map, HN.out] at this; simp at this; omega)
                obtain ⟨pb, po, rfl, hpb, hpc⟩ := HPO.out.resolve_left (fun e => by have := HPL2.out; rw [e] at this; simp at this; omega)
                have hxm := HSP.out x (List.mem_of_getElem? hx)
                have e1 := (HBa.out.cell (p := ⟨tb, to_ + k, none⟩) htb).trans (htc k _ (by rw [List.getElem?_map, hx]; rfl))
                have e2 := (HBa.out.cell (p := ⟨pb, po + k, none⟩) hpb).trans (hpc k gy hgy)
                unfold ptrN at e2
                obtain ⟨tr, htr⟩ : ∃ t, Lib.trimPrefix pd x.1 = t := ⟨_, rfl⟩
                obtain ⟨hp, hhp⟩ : ∃ t, Lib.hasPrefix pd x.1 = t := ⟨_, rfl⟩
                have HCP := Lib.hid (fun W => cut_l htr hhp W)
                have g1 : (0 : Int) ≤ k := by omega
                have g2_ : (k : Int) < n := by omega
                cases hp with
                | true =>
                  have hpre := prefix_has.1 hhp
                  have hfin : RoundP w3.heap.size (fun k => k < w3.heap.size) w3 path tot f1 (.slice p5 (on + 1) c5_) (.string ⟨tr.toArray⟩) (.pointer (some ⟨gy, 0, none⟩)) (.bool false) wa.drew := by
                    refine ⟨L ++ [by_], HOa.out.of_block (fun _ _ => rfl), HBa.out.drew, HLa.out, .inr ⟨x.2.1, x.2.2, gy, rfl, hny, ?_, ?_, hxm.2.2.2.1, by rw [HTa.out, HWK.out x (List.mem_of_getElem? hx) hpre]⟩⟩
                    · rw [← htr, Lib.trimPrefix, if_pos hhp, ← HPD.out, List.drop_drop, hxm.1]
                    · have h5 := hxm.1
                      have h6 : x.1.length ≠ 0 := fun e => hxm.2.1 (List.eq_nil_of_length_eq_zero e)
                      rw [show decide (x.2.2 = 0) = false from by simp; omega]
                  have HF := Lib.hid hfin
                  clear hfin hpre hxm hny hgy hx htr hhp htc hpc
                  go_wp2_with fail
                  refine (HCP.out _).mono ?_
                  rintro e w5 ⟨rfl, rfl⟩
                  go_wp2_with fail
                  refine wp_region_held_drew (S := (fun W => W.cell? ⟨g, 5, none⟩ = some (.slice (some ⟨pb, po, none⟩) n pc) ∧ W.cell? ⟨pb, po + k, none⟩ = some (.pointer (some ⟨gy, 0, none⟩)))) (by kernel_rfl) (⟨((HCL.out.kept (HBa.out.block g hg)).kept rfl : HasCells w5.drew _ _ 49).cell (j := 5) rfl, e2⟩) (fun hHeld => ?_)
                  refine wpAnyH_take (i := 0) (v := ?_) rfl (by kernel_rfl) (by kernel_rfl) (by kernel_rfl) (fun _ _ _ h => h) (.inl ⟨by rfl, ?_⟩) (by assumption) ?_
                  rotate_left 1
                  · intro w0 hSw
                    go_simp <;> with_reducible rfl
                  try simp only [Act.put, zq1, zq2, zq4, zq5, zq6]
                  refine wpAnyH_take (i := 1) (v := ?_) rfl (by kernel_rfl) (by kernel_rfl) (by kernel_rfl) (fun _ _ _ h => h) (.inl ⟨by rfl, ?_⟩) (by assumption) ?_
                  rotate_left 1
                  · intro w0 hSw
                    go_simp <;> with_reducible rfl
                  try simp only [Act.put, zq1, zq2, zq3, zq4, zq5, zq6]
                  refine wpAnyH_take (i := 2) (v := ?_) rfl (by kernel_rfl) (by kernel_rfl) (by kernel_rfl) (fun _ _ _ h => h) (.inl ⟨by rfl, ?_⟩) (by assumption) ?_
                  rotate_left 1
                  · intro w0 hSw
                    go_simp <;> with_reducible rfl
                  try simp only [Act.put, zq1, zq2, zq3, zq4, zq5, zq6]
                  refine wpAnyH_take (i := 3) (v := ?_) rfl (by kernel_rfl) (by kernel_rfl) (by kernel_rfl) (fun _ _ _ h => h) (.inl ⟨by rfl, ?_⟩) (by assumption) ?_
                  rotate_left 1
                  · intro w0 hSw
                    go_simp <;> with_reducible rfl
                  try simp only [Act.put, zq1, zq2, zq3, zq4, zq5, zq6]
                  refine wpAnyH_take (i := 4) (v := ?_) rfl (by kernel_rfl) (by kernel_rfl) (by kernel_rfl) (fun _ _ _ h => h) (.inl ⟨by rfl, ?_⟩) (by assumption) ?_
                  rotate_left 1
                  · intro w0 hSw
                    obtain ⟨z0, z1⟩ := hSw
                    go_simp <;> with_reducible rfl
                  try simp only [Act.put, zq1, zq2, zq3, zq4, zq5, zq6]
                  refine wpAnyH_take (i := 5) (v := ?_) rfl (by kernel_rfl) (by kernel_rfl) (by kernel_rfl) (fun _ _ _ h => h) (.inl ⟨by rfl, ?_⟩) (by assumption) ?_
                  rotate_left 1
                  · intro w0 hSw
                    go_simp <;> with_reducible rfl
                  try simp only [Act.put, zq1, zq2, zq3, zq4, zq5, zq6]
                  refine wpAnyH_take (i := 6) (v := ?_) rfl (by kernel_rfl) (by kernel_rfl) (by kernel_rfl) (fun _ _ _ h => h) (.inl ⟨by rfl, ?_⟩) (by assumption) ?_
                  rotate_left 1
                  · intro w0 hSw
                    go_simp <;> with_reducible rfl
                  try simp only [Act.put, zq1, zq2, zq3, zq4, zq5, zq6]
                  refine wpAnyH_take (i := 7) (v := ?_) rfl (by kernel_rfl) (by kernel_rfl) (by kernel_rfl) (fun _ _ _ h => h) (.inl ⟨by rfl, ?_⟩) (by assumption) ?_
                  rotate_left 1
                  · intro w0 hSw
                    obtain ⟨z0, z1⟩ := hSw
                    go_simp <;> with_reducible rfl
                  try simp only [Act.put, zq1, zq2, zq3, zq4, zq5, zq6]
                  refine wpAnyH_take (i := 8) (v := ?_) rfl (by kernel_rfl) (by kernel_rfl) (by kernel_rfl) (fun _ _ _ h => h) (.inl ⟨by rfl, ?_⟩) (by assumption) ?_
                  rotate_left 1
                  · intro w0 hSw
                    go_simp <;> with_reducible rfl
                  try simp only [Act.put, zq1, zq2, zq3, zq4, zq5, zq6]
                  refine wpAnyH_take (i := 9) (v := ?_) rfl (by kernel_rfl) (by kernel_rfl) (by kernel_rfl) (fun _ _ _ h => h) (.inl ⟨by rfl, ?_⟩) (by assumption) ?_
                  rotate_left 1
                  · intro w0 hSw
                    go_simp <;> with_reducible rfl
                  try simp only [Act.put, zq1, zq2, zq3, zq4, zq5, zq6]
                  refine wpAnyH_done (by kernel_rfl) ?_ 0
                  go_wp2_with fail
                  go_roundg f1
                  case measure => omega
                  case rel => exact ⟨HF.out, ⟨_, _, _, rfl⟩, ⟨_, rfl⟩, ⟨_, rfl⟩, ⟨_, rfl⟩⟩
                | false =>
                  have hno : ∀ j y, j < k + 1 → ks[j]? = some y → ¬ y.1 <+: pd := by
                    intro j y hj hy
                    by_cases hjk : j < k
                    · exact HNO.out j y hjk hy
                    · obtain rfl : j = k := by omega
                      rw [hx] at hy
                      cases hy
                      intro h
                      rw [prefix_has.2 h] at hhp
                      cases hhp
                  have HNO2 := Lib.hid hno
                  clear hno hxm hny hgy hx htr hhp htc hpc e2
                  go_wp2_with fail
                  refine (HCP.out _).mono ?_
                  rintro e w5 ⟨rfl, rfl⟩
                  go_wp2_with fail
                  go_roundg (n - k - 1)
                  case measure => omega
                  case rel => exact ⟨rfl, rfl, k + 1, by omega, by go_num, HNO2.out, rfl⟩
              · have hmk : k = n := by omega
                have htn : tl = [] := HWN.out (fun x hx => by
                  obtain ⟨j, hj, hjx⟩ := List.getElem_of_mem hx
                  exact HNO.out j x (by rw [hmk, ← HN.out]; exact hj) (by rw [List.getElem?_eq_getElem hj, hjx]))
                have HTN := Lib.hid htn
                obtain ⟨k2, hk2⟩ : ∃ k2, k2 = n := ⟨_, rfl⟩
                rw [hmk]
                clear htn hmk hkn
                go_wp2_with fail
                try simp only [Exit.noGoto]
                change bodyPost _ _ _ Exit.ret _ _
                go_ret2
                rw [HTa.out, HTN.out, List.append_nil]
                exact TextsR.of HOa.out HB3.out.size (HB3.out.trans (HBa.out.mono HB3.out.size))
        · rw [if_neg hc, List.nil_append] at htot
          have h1 : decide (d = 0) = false := by simp; omega
          have g3 : ¬ ((32 : Int) ≤ bl) := by omega
          have g4 : decide ((32 : Int) ≤ bl) = false := decide_eq_false g3
          have h3 := (HCL.out.kept (HB.out.block g hg)).cell (j := 3) rfl
          have c4 := (HCL.out.kept (HB.out.block g hg)).cell (j := 4) rfl
          have HTa := Lib.hid htot
          have HLa : Hid (L.length + f1 ≤ 129) := Lib.hid (by omega)
          rw [h1]
          obtain ⟨wa, hwa⟩ : ∃ wo : World, wo = wr := ⟨_, rfl⟩
          rw [← hwa] at HO HB h3 c4 ⊢
          have HOa := HO
          have HBa := HB
          clear hc htot h1 hwa
          go_wp2_with fail
          clear h3
          go_loopg [7, 8, 44] n (fun g2 pv xv iv wi => pv = .string ⟨pd.toArray⟩ ∧ xv = .pointer (some ⟨g, 0, none⟩) ∧ ∃ k : Nat, k + g2 = n ∧ iv = .int .i64 k ∧ Aside (∀ j x, j < k → ks[j]? = some x → ¬ x.1 <+: pd) ∧ Aside (wi = wa))
          case atStart => exact ⟨rfl, rfl, 0, by omega, rfl, fun _ _ h => absurd h (Nat.not_lt_zero _), rfl⟩
          case round =>
            obtain ⟨rfl, rfl, k, hkn, rfl, HNO, HWE⟩ := hrel
            obtain rfl : wa = wr := HWE.out.symm
            by_cases hlt : k < n
            · obtain ⟨x, hx⟩ : ∃ x, ks[k]? = some x := ⟨_, List.getElem?_eq_getElem (by rw [HN.out]; exact hlt)⟩
              obtain ⟨gy, hgy, hny⟩ := HK.out k x hx
              obtain ⟨tb, to_, rfl, htb, htc⟩ := HTX.out.resolve_left (fun e => by have := congrArg List.length e; rw [List.length_map, HN.out] at this; simp at this; omega)
              obtain ⟨pb, po, rfl, hpb, hpc⟩ := HPO.out.resolve_left (fun e => by have := HPL2.out; rw [e] at this; simp at this; omega)
              have hxm := HSP.out x (List.mem_of_getElem? hx)
              have e1 := (HBa.out.cell (p := ⟨tb, to_ + k, none⟩) htb).trans (htc k _ (by rw [List.getElem?_map, hx]; rfl))
              have e2 := (HBa.out.cell (p := ⟨pb, po + k, none⟩) hpb).trans (hpc k gy hgy)
              unfold ptrN at e2
              obtain ⟨tr, htr⟩ : ∃ t, Lib.trimPrefix pd x.1 = t := ⟨_, rfl⟩
              obtain ⟨hp, hhp⟩ : ∃ t, Lib.hasPrefix pd x.1 = t := ⟨_, rfl⟩
              have HCP := Lib.hid (fun W => cut_l htr hhp W)
              have g1 : (0 : Int) ≤ k := by omega
              have g2_ : (k : Int) < n := by omega
              cases hp with
              | true =>
                have hpre := prefix_has.1 hhp
                have hfin : RoundP w3.heap.size (fun k => k < w3.heap.size) w3 path tot f1 (.slice op on oc) (.string ⟨tr.toArray⟩) (.pointer (some ⟨gy, 0, none⟩)) (.bool false) wa.drew := by
                  refine ⟨L, HOa.out.of_block (fun _ _ => rfl), HBa.out.drew, HLa.out, .inr ⟨x.2.1, x.2.2, gy, rfl, hny, ?_, ?_, hxm.2.2.2.1, by rw [HTa.out, HWK.out x (List.mem_of_getElem? hx) hpre]⟩⟩
                  · rw [← htr, Lib.trimPrefix, if_pos hhp, ← HPD.out, List.drop_drop, hxm.1]
                  · have h5 := hxm.1
                    have h6 : x.1.length ≠ 0 := fun e => hxm.2.1 (List.eq_nil_of_length_eq_zero e)
                    rw [show decide (x.2.2 = 0) = false from by simp; omega]
                have HF := Lib.hid hfin
                clear hfin hpre hxm hny hgy hx htr hhp htc hpc
                go_wp2_with fail
                refine (HCP.out _).mono ?_
                rintro e w5 ⟨rfl, rfl⟩
                go_wp2_with fail
                refine wp_region_held_drew (S := (fun W => W.cell? ⟨g, 5, none⟩ = some (.slice (some ⟨pb, po, none⟩) n pc) ∧ W.cell? ⟨pb, po + k, none⟩ = some (.pointer (some ⟨gy, 0, none⟩)))) (by kernel_rfl) (⟨((HCL.out.kept (HBa.out.block g hg)).kept rfl : HasCells w5.drew _ _ 49).cell (j := 5) rfl, e2⟩) (fun hHeld => ?_)
                refine wpAnyH_take (i := 0) (v := ?_) rfl (by kernel_rfl) (by kernel_rfl) (by kernel_rfl) (fun _ _ _ h => h) (.inl ⟨by rfl, ?_⟩) (by assumption) ?_
                rotate_left 1
                · intro w0 hSw
                  go_simp <;> with_reducible rfl
                try simp only [Act.put, zq1, zq2, zq4, zq5, zq6]
                refine wpAnyH_take (i := 1) (v := ?_) rfl (by kernel_rfl) (by kernel_rfl) (by kernel_rfl) (fun _ _ _ h => h) (.inl ⟨by rfl, ?_⟩) (by assumption) ?_
                rotate_left 1
                · intro w0 hSw
                  go_simp <;> with_reducible rfl
                try simp only [Act.put, zq1, zq2, zq3, zq4, zq5, zq6]
                refine wpAnyH_take (i := 2) (v := ?_) rfl (by kernel_rfl) (by kernel_rfl) (by kernel_rfl) (fun _ _ _ h => h) (.inl ⟨by rfl, ?_⟩) (by assumption) ?_
                rotate_left 1
                · intro w0 hSw
                  go_simp <;> with_reducible rfl
                try simp only [Act.put, zq1, zq2, zq3, zq4, zq5, zq6]
                refine wpAnyH_take (i := 3) (v := ?_) rfl (by kernel_rfl) (by kernel_rfl) (by kernel_rfl) (fun _ _ _ h => h) (.inl ⟨by rfl, ?_⟩) (by assumption) ?_
                rotate_left 1
                · intro w0 hSw
                  go_simp <;> with_reducible rfl
                try simp only [Act.put, zq1, zq2, zq3, zq4, zq5, zq6]
                refine wpAnyH_take (i := 4) (v := ?_) rfl (by kernel_rfl) (by kernel_rfl) (by kernel_rfl) (fun _ _ _ h => h) (.inl ⟨by rfl, ?_⟩) (by assumption) ?_
                rotate_left 1
                · intro w0 hSw
                  obtain ⟨z0, z1⟩ := hSw
                  go_simp <;> with_reducible rfl
                try simp only [Act.put, zq1, zq2, zq3, zq4, zq5, zq6]
                refine wpAnyH_take (i := 5) (v := ?_) rfl (by kernel_rfl) (by kernel_rfl) (by kernel_rfl) (fun _ _ _ h => h) (.inl ⟨by rfl, ?_⟩) (by assumption) ?_
                rotate_left 1
                · intro w0 hSw
                  go_simp <;> with_reducible rfl
                try simp only [Act.put, zq1, zq2, zq3, zq4, zq5, zq6]
                refine wpAnyH_take (i := 6) (v := ?_) rfl (by kernel_rfl) (by kernel_rfl) (by kernel_rfl) (fun _ _ _ h => h) (.inl ⟨by rfl, ?_⟩) (by assumption) ?_
                rotate_left 1
                · intro w0 hSw
                  go_simp <;> with_reducible rfl
                try simp only [Act.put, zq1, zq2, zq3, zq4, zq5, zq6]
                refine wpAnyH_take (i := 7) (v := ?_) rfl (by kernel_rfl) (by kernel_rfl) (by kernel_rfl) (fun _ _ _ h => h) (.inl ⟨by rfl, ?_⟩) (by assumption) ?_
                rotate_left 1
                · intro w0 hSw
                  obtain ⟨z0, z1⟩ := hSw
                  go_simp <;> with_reducible rfl
                try simp only [Act.put, zq1, zq2, zq3, zq4, zq5, zq6]
                refine wpAnyH_take (i := 8) (v := ?_) rfl (by kernel_rfl) (by kernel_rfl) (by kernel_rfl) (fun _ _ _ h => h) (.inl ⟨by rfl, ?_⟩) (by assumption) ?_
                rotate_left 1
                · intro w0 hSw
                  go_simp <;> with_reducible rfl
                try simp only [Act.put, zq1, zq2, zq3, zq4, zq5, zq6]
                refine wpAnyH_take (i := 9) (v := ?_) rfl (by kernel_rfl) (by kernel_rfl) (by kernel_rfl) (fun _ _ _ h => h) (.inl ⟨by rfl, ?_⟩) (by assumption) ?_
                rotate_left 1
                · intro w0 hSw
                  go_simp <;> with_reducible rfl
                try simp only [Act.put, zq1, zq2, zq3, zq4, zq5, zq6]
                refine wpAnyH_done (by kernel_rfl) ?_ 0
                go_wp2_with fail
                go_roundg f1
                case measure => omega
                case rel => exact ⟨HF.out, ⟨_, _, _, rfl⟩, ⟨_, rfl⟩, ⟨_, rfl⟩, ⟨_, rfl⟩⟩
              | false =>
                have hno : ∀ j y, j < k + 1 → ks[j]? = some y → ¬ y.1 <+: pd := by
                  intro j y hj hy
                  by_cases hjk : j < k
                  · exact HNO.out j y hjk hy
                  · obtain rfl : j = k := by omega
                    rw [hx] at hy
                    cases hy
                    intro h
                    rw [prefix_has.2 h] at hhp
                    cases hhp
                have HNO2 := Lib.hid hno
                clear hno hxm hny hgy hx htr hhp htc hpc e2
                go_wp2_with fail
                refine (HCP.out _).mono ?_
                rintro e w5 ⟨rfl, rfl⟩
                go_wp2_with fail
                go_roundg (n - k - 1)
                case measure => omega
                case rel => exact ⟨rfl, rfl, k + 1, by omega, by go_num, HNO2.out, rfl⟩
            · have hmk : k = n := by omega
              have htn : tl = [] := HWN.out (fun x hx => by
                obtain ⟨j, hj, hjx⟩ := List.getElem_of_mem hx
                exact HNO.out j x (by rw [hmk, ← HN.out]; exact hj) (by rw [List.getElem?_eq_getElem hj, hjx]))
              have HTN := Lib.hid htn
              obtain ⟨k2, hk2⟩ : ∃ k2, k2 = n := ⟨_, rfl⟩
              rw [hmk]
              clear htn hmk hkn
              go_wp2_with fail
              try simp only [Exit.noGoto]
              change bodyPost _ _ _ Exit.ret _ _
              go_ret2
              rw [HTa.out, HTN.out, List.append_nil]
              exact TextsR.of HOa.out HB3.out.size (HB3.out.trans (HBa.out.mono HB3.out.size))
end Go.Proofs.YthicdhnjincflaaGreatDoor
