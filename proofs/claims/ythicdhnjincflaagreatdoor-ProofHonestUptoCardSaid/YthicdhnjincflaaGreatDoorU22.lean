/- What the walks take: TrfF. -/
import Derived.Test.YthicdhnjincflaaGreatDoorU0
import Derived.Test.YthicdhnjincflaaGreatDoorU4
import Derived.Test.YthicdhnjincflaaGreatDoorU9
import Derived.Test.YthicdhnjincflaaGreatDoorU14
import Derived.Test.YthicdhnjincflaaGreatDoorU19
import Derived.Test.YthicdhnjincflaaGreatDoorU20
import Derived.Test.YthicdhnjincflaaGreatDoorU21
import Derived.Lib.Hide
import Derived.Deep.RegionHeld3
namespace Go.Proofs.YthicdhnjincflaaGreatDoor
open Go.RowKit Go.Shelf Go.Lib
attribute [local go_sem] Oper.semAt_some
theorem ofRef_l {l p : List UInt8} (h : halves l = p) (hl : l.length ≤ 100000) (w : World) :
    Calls Tryz.prog 40 #[.string ⟨l.toArray⟩] w fun e w' => e = .returned (.string ⟨p.toArray⟩) ∧ Below w.heap.size w w' := by
  subst h
  exact ofRef_any ⟨l.toArray⟩ w (by show l.length ≤ _; omega)
theorem commonRef_l {a b : List UInt8} {n : Nat} (h : common a b = n) (ha : a.length ≤ 100000) (hb : b.length ≤ 100000) (w : World) :
    Calls Tryz.prog 98 #[.string ⟨a.toArray⟩, .string ⟨b.toArray⟩] w fun e w' => e = .returned (.int .i64 n) ∧ Below w.heap.size w w' := by
  subst h
  exact commonRef_any ⟨a.toArray⟩ ⟨b.toArray⟩ w (by show a.length ≤ _; omega) (by show b.length ≤ _; omega)
def itemZ : List Value := [.bool false, .string ⟨#[]⟩, .slice none 0 0]
theorem infoItemS : (Tryz.prog.info? 46).map (·.size) = some 3 := by kernel_rfl
theorem cut_ahead (l : List UInt8) (d : Nat) : (⟨l.toArray⟩ : ByteArray).extract d (⟨l.toArray⟩ : ByteArray).size = ⟨(l.drop d).toArray⟩ := ext_drop _ _
def alikeF (p : List UInt8) (d : Nat) (r : List PairD) (n : Nat) : Nat := r.foldl (fun n x => min n (common p ((pth x).drop d))) n
theorem alikeF_snoc (p : List UInt8) (d : Nat) (r : List PairD) (x : PairD) (n : Nat) : alikeF p d (r ++ [x]) n = min (alikeF p d r n) (common p ((pth x).drop d)) := by
  unfold alikeF
  rw [List.foldl_append]
  rfl
theorem alikeP_eq (q : PairD) (r : List PairD) (d : Nat) : alikeP (q :: r) d = alikeF ((pth q).drop d) d r ((pth q).drop d).length := rfl
theorem pth_len {q : PairD} {d : Nat} (h : d ≤ (pth q).length ∧ (pth q).length ≤ 128) : q.1.length ≤ 64 := by
  have : (pth q).length = 2 * q.1.length := halves_length q.1
  omega
set_option maxRecDepth 100000 in
set_option maxHeartbeats 3200000 in
theorem alikeRef_any (q : PairD) (r : List PairD) (d : Nat) (v : Value) (w : World) (hv : Pairs w v (q :: r)) (hval : Valid (q :: r) d) (hlen : (q :: r).length ≤ 1000) :
    Calls Tryz.prog 69 #[v, .int .i64 d] w fun e w' => e = .returned (.int .i64 (alikeP (q :: r) d)) ∧ Below w.heap.size w w' := by
  obtain ⟨p, c, rfl⟩ := hv.form
  obtain ⟨-, bk, ob, rfl, hbk, hcl⟩ := hv.at (by simp)
  have hd := valid_le hval
  have HC := Lib.hid (fun W (hb : Below w.heap.size w W) k x (hk : (q :: r)[k]? = some x) => (show W.cell? ⟨bk, ob + k * 2, none⟩ = some (.string ⟨x.1.toArray⟩) from (hb.cell (p := ⟨bk, ob + k * 2, none⟩) hbk).trans (hcl k x hk).1))
  have HV := Lib.hid hval
  obtain ⟨n, hn⟩ : ∃ n, (q :: r).length = n := ⟨_, rfl⟩
  have hn1 : 1 ≤ n := by rw [← hn]; simp
  have HN := Lib.hid hn
  rw [hn] at hlen ⊢
  have c0 := (hcl 0 q rfl).1
  have hq := hval.2 q List.mem_cons_self
  have hql := pth_len hq
  obtain ⟨P0, hP0⟩ : ∃ P, pth q = P := ⟨_, rfl⟩
  rw [hP0] at hq
  have H0 := Lib.hid (fun W => ofRef_l (l := q.1) (p := P0) hP0 (by omega) W)
  obtain ⟨D0, hD0⟩ : ∃ D, P0.drop d = D := ⟨_, rfl⟩
  have HX0 := Lib.hid (show (⟨P0.toArray⟩ : ByteArray).extract d P0.length = ⟨D0.toArray⟩ from by rw [← hD0]; exact cut_ahead _ _)
  have hs0 : (⟨P0.toArray⟩ : ByteArray).size = P0.length := rfl
  have hsd0 : (⟨D0.toArray⟩ : ByteArray).size = D0.length := rfl
  have hdl : D0.length = P0.length - d := by rw [← hD0, List.length_drop]
  have HA := Lib.hid (show alikeP (q :: r) d = alikeF D0 d r D0.length from by rw [alikeP_eq, hP0, hD0])
  obtain ⟨al, hal⟩ : ∃ n, alikeP (q :: r) d = n := ⟨_, rfl⟩
  rw [hal] at HA ⊢
  rw [Nat.zero_mul, Nat.add_zero] at c0
  obtain ⟨p0, hp0⟩ : ∃ n, P0.length = n := ⟨_, rfl⟩
  obtain ⟨d0, hd0⟩ : ∃ n, D0.length = n := ⟨_, rfl⟩
  have HD0 := Lib.hid hd0
  rw [hp0] at hq hs0 hdl HX0
  rw [hd0] at hsd0 hdl HA
  have i0 : (0 : Int) ≤ d := by omega
  have i1 : (d : Int) ≤ p0 := by omega
  have i2 : (0 : Int) < n := by omega
  have i3 : d0 ≤ 128 := by omega
  clear hv hcl hval hn hP0 hp0 hD0 hd0 hal hdl
  go_enter Tryz.func69, Tryz.ntmps69
  go_wp2_with fail
  refine (H0.out _).mono ?_
  rintro e w1 ⟨rfl, hb1⟩
  have HB1 := Lib.hid hb1
  clear hb1 c0
  go_wp2_with (rw [HX0.out])
  go_loopw [6, 7] (fun m i wr => ∃ k : Nat, 1 ≤ k ∧ k ≤ n ∧ i = .int .i64 k ∧ m = .int .i64 (alikeF D0 d (r.take (k - 1)) d0) ∧ Aside (Below w.heap.size w wr)) (fun _ i _ => n - (RowKit.intOf i).toNat)
  case atStart => exact ⟨1, Nat.le_refl _, hn1, rfl, rfl, HB1.out⟩
  case round =>
    obtain ⟨k, hk1, hk, rfl, rfl, HB⟩ := hrel
    by_cases hlt : k < n
    · obtain ⟨x, hx⟩ : ∃ x, (q :: r)[k]? = some x := ⟨_, List.getElem?_eq_getElem (by rw [HN.out]; exact hlt)⟩
      have ck := HC.out _ HB.out k x hx
      have hxm := List.mem_of_getElem? hx
      have hq2 := HV.out.2 x hxm
      have hql2 := pth_len hq2
      obtain ⟨P1, hP1⟩ : ∃ P, pth x = P := ⟨_, rfl⟩
      rw [hP1] at hq2
      have H1 := Lib.hid (fun W => ofRef_l (l := x.1) (p := P1) hP1 (by omega) W)
      obtain ⟨D1, hD1⟩ : ∃ D, P1.drop d = D := ⟨_, rfl⟩
      have HX1 := Lib.hid (show (⟨P1.toArray⟩ : ByteArray).extract d P1.length = ⟨D1.toArray⟩ from by rw [← hD1]; exact cut_ahead _ _)
      have hs1 : (⟨P1.toArray⟩ : ByteArray).size = P1.length := rfl
      have hdl1 : D1.length = P1.length - d := by rw [← hD1, List.length_drop]
      obtain ⟨cm, hcm⟩ : ∃ n, common D0 D1 = n := ⟨_, rfl⟩
      have H2 := Lib.hid (fun W => commonRef_l (a := D0) (b := D1) hcm (by rw [HD0.out]; omega) (by omega) W)
      have hcl0 := (common_le D0 D1).1
      rw [hcm, HD0.out] at hcl0
      obtain ⟨m, hm⟩ : ∃ m, alikeF D0 d (r.take (k - 1)) d0 = m := ⟨_, rfl⟩
      have HM := Lib.hid (show alikeF D0 d (r.take (k + 1 - 1)) d0 = min m cm from by
        have h1 : r[k - 1]? = some x := by
          obtain ⟨k', rfl⟩ : ∃ k', k = k' + 1 := ⟨k - 1, by omega⟩
          exact hx
        rw [show k + 1 - 1 = (k - 1) + 1 by omega, List.take_add_one, h1]
        show alikeF D0 d (r.take (k - 1) ++ [x]) d0 = _
        rw [alikeF_snoc, hm, hP1, hD1, hcm])
      rw [hm]
      obtain ⟨p1, hp1⟩ : ∃ n, P1.length = n := ⟨_, rfl⟩
      rw [hp1] at hq2 hs1 HX1
      have j1 : (d : Int) ≤ p1 := by omega
      have g1 : (0 : Int) ≤ k := by omega
      have g2 : (k : Int) < n := by omega
      clear hP1 hp1 hD1 hdl1 hx hcm hm hxm
      go_wp2_with fail
      refine (H1.out _).mono ?_
      rintro e w2 ⟨rfl, hb2⟩
      have HB2 := Lib.hid (HB.out.trans (hb2.mono HB.out.size))
      clear hb2 ck
      go_wp2_with (rw [HX1.out])
      refine (H2.out _).mono ?_
      rintro e w3 ⟨rfl, hb3⟩
      have HB3 := Lib.hid (HB2.out.trans (hb3.mono HB2.out.size))
      clear hb3
      go_wp2
      go_roundw
      case rel => exact ⟨k + 1, by omega, by omega, by go_num, (by rw [HM.out]; exact congrArg (Value.int .i64) (by omega)), HB3.out⟩
      case measure => simp [RowKit.intOf]; omega
    · obtain rfl : k = n := by omega
      have HF : alikeF D0 d (r.take (k - 1)) d0 = al := by
        rw [HA.out, List.take_of_length_le (by have := HN.out; simp at this; omega)]
      rw [HF]
      clear HF
      go_wp2
      go_ret
      exact ⟨rfl, HB.out⟩
set_option maxRecDepth 100000 in
set_option maxHeartbeats 1600000 in
theorem formRefI_any (p : List UInt8) (leaf : Bool) (w : World) (hp : p.length ≤ 100000) :
    Calls Tryz.prog 68 #[.string ⟨p.toArray⟩, .bool leaf] w fun e w' => e = .returned (itemV (formI p leaf) (.slice none 0 0)) ∧ Below w.heap.size w w' := by
  obtain ⟨s, er, hs⟩ : ∃ s er, form p leaf = (s, er) := ⟨_, _, rfl⟩
  have H := Lib.hid (fun W => formRef_any ⟨p.toArray⟩ leaf W (by show p.length ≤ _; omega))
  rw [show formV (⟨p.toArray⟩ : ByteArray).data.toList leaf = .tuple #[.string ⟨s.toArray⟩, .int .i64 er] from formV_of hs] at H
  have HI := Lib.hid (show itemV (formI p leaf) (.slice none 0 0) = .agg #[.bool false, .string ⟨s.toArray⟩, .slice none 0 0] from by unfold formI; rw [hs]; rfl)
  have HZ := Lib.hid (laid1 w (.cells #[.bool false, .string ⟨#[]⟩, .slice none 0 0] 46))
  clear hs
  go_enter Tryz.func68, Tryz.ntmps68
  go_wp2_with fail
  refine (H.out _).mono ?_
  rintro e w1 ⟨rfl, hb1⟩
  obtain ⟨z0, z1, z2, f0, f1, f2⟩ := zero_cells hb1
  have HQ := Lib.hid ((HasCells.new w itemZ 46).after hb1)
  have HB := Lib.hid (HZ.out.trans (hb1.mono (by simp)))
  clear hb1
  go_wp2_with fail
  have hf := ((HQ.out.set 0 (.bool false)).set 1 (.string ⟨s.toArray⟩)).set 2 (.slice none 0 0)
  refine bodyPost_ret (v := .agg #[.bool false, .string ⟨s.toArray⟩, .slice none 0 0]) (results_cells rfl _ _ w.heap.size [.bool false, .string ⟨s.toArray⟩, .slice none 0 0] _ (by rfl) hf.range Tryz.underlying46 rfl infoItemS) rfl ?_
  exact ⟨by rw [HI.out], three_below HB.out _ _ _⟩
set_option maxRecDepth 100000 in
set_option maxHeartbeats 1600000 in
theorem endingRef_any (ps : List PairD) (d : Nat) (v : Value) (w : World) (hv : Pairs w v ps) (hlen : ps.length ≤ 1000) (hk : ∀ q ∈ ps, q.1.length ≤ 100000) (hd : d ≤ 100000) :
    Calls Tryz.prog 72 #[v, .int .i64 d] w fun e w' => e = .returned (.string ⟨(endingP ps d).toArray⟩) ∧ Below w.heap.size w w' := by
  obtain ⟨p, c, rfl⟩ := hv.form
  obtain ⟨n, hn⟩ : ∃ n, ps.length = n := ⟨_, rfl⟩
  have HN := Lib.hid hn
  have HV := Lib.hid hv
  rw [hn] at hlen HV ⊢
  have HK := Lib.hid hk
  obtain ⟨en, hen⟩ : ∃ s, endingP ps d = s := ⟨_, rfl⟩
  have HE := Lib.hid hen
  rw [hen]
  clear hv hn hk hen
  go_enter Tryz.func72, Tryz.ntmps72
  go_wp2_with fail
  go_loopw [5] (fun i wr => wr = w ∧ ∃ k : Nat, k ≤ n ∧ i = .int .i64 k ∧ Aside (endingP (ps.drop k) d = en)) (fun i _ => n - (RowKit.intOf i).toNat)
  case atStart => exact ⟨rfl, 0, Nat.zero_le _, rfl, HE.out⟩
  case round =>
    obtain ⟨rfl, k, hk, rfl, HR⟩ := hrel
    by_cases hlt : k < n
    · obtain ⟨x, hx⟩ : ∃ x, ps[k]? = some x := ⟨_, List.getElem?_eq_getElem (by rw [HN.out]; exact hlt)⟩
      obtain ⟨-, bk, ob, rfl, hbk, hcl⟩ := HV.out.at (by intro h; rw [h] at hx; cases hx)
      obtain ⟨ck, cv⟩ := hcl k x hx
      have hxl := HK.out x (List.mem_of_getElem? hx)
      have hdr : ps.drop k = x :: ps.drop (k + 1) := by
        obtain ⟨hl, he⟩ := List.getElem?_eq_some_iff.1 hx
        rw [← he]
        exact List.drop_eq_getElem_cons hl
      have hr := HR.out
      rw [hdr] at hr
      unfold endingP at hr
      have hs1 : (⟨x.1.toArray⟩ : ByteArray).size = x.1.length := rfl
      obtain ⟨m, hm⟩ : ∃ m, x.1.length = m := ⟨_, rfl⟩
      rw [hm] at hs1 hr hxl
      have g1 : (0 : Int) ≤ k := by omega
      have g2 : (k : Int) < n := by omega
      by_cases e : 2 * m = d
      · rw [if_pos e] at hr
        subst hr
        subst e
        clear hx hcl hdr hm
        go_wp2
        go_ret
        exact ⟨rfl, Below.refl _ _⟩
      · rw [if_neg e] at hr
        have HRR := Lib.hid hr
        have e1 : ((2 * (m : Int)) == (d : Int)) = false := by simp; omega
        have e2 : ¬ (2 * (m : Int)) = (d : Int) := by omega
        clear hx hcl hdr hr hm e
        go_wp2
        go_roundw
        case rel => exact ⟨trivial, k + 1, by omega, by go_num, HRR.out⟩
        case measure => simp [RowKit.intOf]; omega
    · obtain rfl : k = n := by omega
      have hr := HR.out
      rw [List.drop_of_length_le (by rw [HN.out]; exact Nat.le_refl _)] at hr
      have hr : [] = en := hr
      subst hr
      go_wp2
      go_ret
      exact ⟨rfl, Below.refl _ _⟩
set_option maxRecDepth 100000 in
set_option maxHeartbeats 3200000 in
theorem havingRef_any (ps : List PairD) (d : Nat) (h : UInt8) (v : Value) (w : World) (hv : Pairs w v ps) (hlen : ps.length ≤ 1000) (hk : ∀ q ∈ ps, q.1.length ≤ 64) (hd : d ≤ 100000) :
    Calls Tryz.prog 71 #[v, .int .i64 d, .int .u8 h.toNat] w fun e w' => ∃ p c, e = .returned (.slice p (havingP ps d h).length c) ∧ OwnP w.heap.size w' (.slice p (havingP ps d h).length c) (havingP ps d h) ∧ Below w.heap.size w w' := by
  obtain ⟨p, c, rfl⟩ := hv.form
  obtain ⟨n, hn⟩ : ∃ n, ps.length = n := ⟨_, rfl⟩
  have HN := Lib.hid hn
  have HV := Lib.hid hv
  rw [hn] at hlen HV ⊢
  have HK := Lib.hid hk
  obtain ⟨hb, hhb⟩ : ∃ b : Nat, h.toNat = b := ⟨_, rfl⟩
  have HH := Lib.hid hhb
  rw [hhb]
  clear hv hn hk hhb
  go_enter Tryz.func71, Tryz.ntmps71
  go_wp2_with fail
  go_loopw [7, 8] (fun o i wr => ∃ k : Nat, k ≤ n ∧ i = .int .i64 k ∧ Aside (OwnP w.heap.size wr o (havingP (ps.take k) d h)) ∧ Aside (Below w.heap.size w wr)) (fun _ i _ => n - (RowKit.intOf i).toNat)
  case atStart => exact ⟨0, Nat.zero_le _, rfl, OwnP.nil _ _, Below.refl _ _⟩
  case round =>
    obtain ⟨k, hk, rfl, HO, HB⟩ := hrel
    by_cases hlt : k < n
    · obtain ⟨x, hx⟩ : ∃ x, ps[k]? = some x := ⟨_, List.getElem?_eq_getElem (by rw [HN.out]; exact hlt)⟩
      obtain ⟨-, bk, ob, rfl, hbk, hcl⟩ := HV.out.at (by intro h; rw [h] at hx; cases hx)
      have HC := Lib.hid (fun W (hb : Below w.heap.size w W) => (show W.cell? ⟨bk, ob + k * 2, none⟩ = some (.string ⟨x.1.toArray⟩) ∧ W.cell? ⟨bk, ob + k * 2 + 1, none⟩ = some (.string ⟨x.2.toArray⟩) from ⟨(hb.cell (p := ⟨bk, ob + k * 2, none⟩) hbk).trans (hcl k x hx).1, (hb.cell (p := ⟨bk, ob + k * 2 + 1, none⟩) hbk).trans (hcl k x hx).2⟩))
      obtain ⟨c1, -⟩ := HC.out _ HB.out
      have hxl := HK.out x (List.mem_of_getElem? hx)
      have htk : havingP (ps.take (k + 1)) d h = havingP (ps.take k) d h ++ havingP [x] d h := by
        unfold havingP
        rw [List.take_add_one, hx, List.filter_append]
        rfl
      obtain ⟨P, hP⟩ : ∃ P, pth x = P := ⟨_, rfl⟩
      have hPl : P.length = 2 * x.1.length := by rw [← hP]; exact halves_length _
      have H1 := Lib.hid (fun W => ofRef_l (l := x.1) (p := P) hP (by omega) W)
      have hs1 : (⟨P.toArray⟩ : ByteArray).size = P.length := rfl
      obtain ⟨m, hm⟩ : ∃ m, P.length = m := ⟨_, rfl⟩
      obtain ⟨L, hL⟩ : ∃ L, havingP (ps.take k) d h = L := ⟨_, rfl⟩
      have hLl : L.length ≤ 1000 := by
        rw [← hL]
        have := List.length_filter_le (fun q : PairD => (pth q)[d]? == some h) (ps.take k)
        unfold havingP
        rw [List.length_take] at this
        omega
      rw [hm] at hs1 hPl
      rw [hL] at HO htk
      have g1 : (0 : Int) ≤ k := by omega
      have g2 : (k : Int) < n := by omega
      have g3 : (0 : Int) ≤ d := by omega
      obtain ⟨pv, cv, rfl⟩ := HO.out.form
      have HLL := Lib.hid hLl
      have hone : havingP [x] d h = if P[d]? = some h then [x] else [] := by
        unfold havingP
        rw [List.filter_cons, hP]
        by_cases e : P[d]? = some h
        · rw [if_pos e, if_pos (by rw [e]; simp)]; rfl
        · rw [if_neg e, if_neg (by simpa using e)]; rfl
      obtain ⟨ll, hll⟩ : ∃ ll, L.length = ll := ⟨_, rfl⟩
      have HLN := Lib.hid hll
      rw [hll] at HO ⊢
      by_cases hdl : d < m
      · have g4 : (d : Int) < m := by omega
        have hPd : P[d]? = some (P[d]'(by omega)) := List.getElem?_eq_getElem _
        obtain ⟨y, hy⟩ : ∃ y, P[d]'(by omega) = y := ⟨_, rfl⟩
        rw [hy] at hPd
        have hyb : (((⟨P.toArray⟩ : ByteArray)[d]'(by rw [hs1]; exact hdl)).toNat : Int) = (y.toNat : Int) := by
          rw [← hy]
          rfl
        have hsz : d < (⟨P.toArray⟩ : ByteArray).size := by rw [hs1]; exact hdl
        by_cases e : y = h
        · subst e
          rw [hone, if_pos hPd] at htk
          have HTK := Lib.hid htk
          have q1 : ((((⟨P.toArray⟩ : ByteArray)[d]'hsz).toNat : Int) == (hb : Int)) = true := by rw [hyb, HH.out]; simp
          clear hx hcl hP hm hL htk hone hPd hy hyb hLl hll hPl
          go_wp2_with fail
          refine (H1.out _).mono ?_
          rintro e w1 ⟨rfl, hb1⟩
          have HB1 := Lib.hid (HB.out.trans (hb1.mono HB.out.size))
          have HO1 := Lib.hid (HO.out.after hb1)
          obtain ⟨k1, k2⟩ := HC.out _ HB1.out
          clear hb1 c1
          go_wp2_with (at_builtin; refine wpList_appendP rfl _ _ rfl w.heap.size _ L rfl (HO1.out.alloc _) ⟨w1.heap.size, 0, none⟩ 1 x rfl ?c0 ?c1 ?c2 ?_)
          case c0 => exact fun j u hu => by rw [addr_add']; exact cells_at w1 (pairCells [x]) _ j u hu
          case c1 => have := HLL.out; omega
          case c2 => have := HB1.out.size; simp; omega
          intro v3 w3 ho3 hg3 _
          have hb3 : Below w.heap.size w w3 := (HB1.out.alloc HB1.out.size _).grown hg3 (by have := HB1.out.size; simp; omega) (fun r e => (HO1.out.lt r e).1)
          rw [← HTK.out] at ho3
          have HO3 := Lib.hid ho3
          have HB3 := Lib.hid hb3
          clear ho3 hg3 hb3 HO1 HB1
          go_wp2
          go_roundw
          case rel => exact ⟨k + 1, by omega, by go_num, HO3.out, HB3.out⟩
          case measure => simp [RowKit.intOf]; omega
        · rw [hone, if_neg (by rw [hPd]; intro e2; exact e (Option.some.inj e2)), List.append_nil] at htk
          have HTK := Lib.hid htk
          have q1 : ((((⟨P.toArray⟩ : ByteArray)[d]'hsz).toNat : Int) == (hb : Int)) = false := by
            rw [hyb, beq_eq_false_iff_ne]
            intro e2
            exact e (UInt8.toNat_inj.1 (by have := HH.out; omega))
          clear hx hcl hP hm hL htk hone hPd hy hyb hLl hll hPl
          go_wp2_with fail
          refine (H1.out _).mono ?_
          rintro e w1 ⟨rfl, hb1⟩
          have HB1 := Lib.hid (HB.out.trans (hb1.mono HB.out.size))
          have HO1 := Lib.hid (HO.out.after hb1)
          clear hb1 c1
          go_wp2
          go_roundw
          case rel => exact ⟨k + 1, by omega, by go_num, (by rw [HTK.out]; exact HO1.out), HB1.out⟩
          case measure => simp [RowKit.intOf]; omega
      · have g4 : ¬ ((d : Int) < m) := by omega
        have g5 : decide ((d : Int) < m) = false := decide_eq_false g4
        rw [hone, if_neg (by rw [List.getElem?_eq_none (by omega)]; simp), List.append_nil] at htk
        have HTK := Lib.hid htk
        clear hx hcl hP hm hL htk hone hLl hll hPl
        go_wp2_with fail
        refine (H1.out _).mono ?_
        rintro e w1 ⟨rfl, hb1⟩
        have HB1 := Lib.hid (HB.out.trans (hb1.mono HB.out.size))
        have HO1 := Lib.hid (HO.out.after hb1)
        clear hb1 c1
        go_wp2
        go_roundw
        case rel => exact ⟨k + 1, by omega, by go_num, (by rw [HTK.out]; exact HO1.out), HB1.out⟩
        case measure => simp [RowKit.intOf]; omega
    · obtain rfl : k = n := by omega
      have ho := HO.out
      rw [List.take_of_length_le (by rw [HN.out]; exact Nat.le_refl _)] at ho
      obtain ⟨pv, cv, rfl⟩ := ho.form
      have HO2 := Lib.hid ho
      clear ho HO
      go_wp2
      go_ret
      exact ⟨pv, cv, rfl, HO2.out, HB.out⟩
end Go.Proofs.YthicdhnjincflaaGreatDoor
/- Contracts of the reference's trie: Bytes, reference, Node. -/
namespace Go.Proofs.YthicdhnjincflaaGreatDoor
open Go.RowKit Go.Shelf Go.Lib
attribute [local go_sem] Oper.semAt_some
theorem encodeRef_l {x : Item} {l : List UInt8} {n : Int} (h : encode x = (l, n)) (v : Value) (w : World) (hx : x.size ≤ 1099511627776) (hp : (put x).length ≤ 1099511627776) (hr : Reads w w.heap.size v x.list) :
    Calls Tryz.prog 37 #[.agg #[.bool x.isList, .string ⟨x.text.toArray⟩, v]] w fun e w' => e = .returned (.tuple #[.string ⟨l.toArray⟩, .int .i64 n]) ∧ Below w.heap.size w w' := by
  have e : encodeV x = .tuple #[.string ⟨l.toArray⟩, .int .i64 n] := by unfold encodeV; rw [h]
  rw [← e]
  exact encodeRef_any x v w hx hp hr
theorem rkSum_l {l k : List UInt8} (h : keccakL l = k) (hl : l.length ≤ 1099511627776) (w : World) : Calls Tryz.prog 17 #[.string ⟨l.toArray⟩] w fun e w' => e = .returned (.string ⟨k.toArray⟩) ∧ Below w.heap.size w w' := by
  subst h
  exact rkSum_any ⟨l.toArray⟩ w hl
theorem size_put (n : Nat) : (∀ x : Item, x.size ≤ n → wrong x = false → x.size ≤ (put x).length) ∧ (∀ l : List Item, sizeAll l ≤ n → wrongAny l = false → sizeAll l ≤ (putAll l).length) := by
  induction n with
  | zero => exact ⟨fun x h _ => by have := x.size_pos; omega, fun l h _ => by have := Nat.le_zero.1 h; omega⟩
  | succ n ih =>
    have h1 : ∀ x : Item, x.size ≤ n + 1 → wrong x = false → x.size ≤ (put x).length := fun x h hw => by
      cases x with
      | mk b t l =>
        have hsz : (Item.mk b t l).size = sizeAll l + 1 := Item.size_eq _
        cases b with
        | true =>
          have hw' : wrongAny l = false := by
            rw [wrong_eq] at hw
            rw [wrongAny_any]
            have hw2 : (!t.isEmpty || l.any wrong) = false := hw
            exact (Bool.or_eq_false_iff.1 hw2).2
          have h2 := ih.2 l (by omega) hw'
          have h3 : (putAll l).length + 1 ≤ (put (Item.mk true t l)).length := (tp_framed (putAll l) 192).1
          omega
        | false =>
          have hw' : l = [] := by
            rw [wrong_eq] at hw
            have hw2 : (!l.isEmpty) = false := hw
            simpa using hw2
          subst hw'
          have h3 : 1 ≤ (put (Item.mk false t [])).length := (tp_text t).1
          have h4 : (Item.mk false t []).size = 1 := rfl
          omega
    refine ⟨h1, fun l => ?_⟩
    induction l with
    | nil => intro _ _; exact Nat.zero_le _
    | cons a r ih2 =>
      intro h hw
      have hs : sizeAll (a :: r) = a.size + sizeAll r := rfl
      have hp : putAll (a :: r) = put a ++ putAll r := rfl
      have hw2 : (wrong a || wrongAny r) = false := hw
      obtain ⟨w1, w2⟩ := Bool.or_eq_false_iff.1 hw2
      have h3 := h1 a (by omega) w1
      have h4 := ih2 (by omega) w2
      rw [hs, hp, List.length_append]
      omega
theorem fit_size {b : Bool} {x : Item} (h : Fit b x) : x.size ≤ 1099511627776 ∧ (put x).length ≤ 1099511627776 := by
  have h1 := (size_put x.size).1 x (Nat.le_refl _) h.right
  have h2 := h.short
  omega
theorem cut_both (l : List UInt8) (d n : Nat) : (⟨l.toArray⟩ : ByteArray).extract d (d + n) = ⟨((l.drop d).take n).toArray⟩ := by
  apply ByteArray.ext
  apply Array.toList_inj.1
  rw [ByteArray.data_extract]
  simp [List.take_drop]
theorem wpList_appendJ3 {ops : Array Oper} {rest : List Oper} {o : Oper} {a : Act} {w : World} {Q : Exit → Act → World → Prop} (hgd : o.guard = none) (s x : Operand)
    (ho : o.op = .call { callee := .builtin .append, args := #[s, x], argTypes := #[44, 44] })
    (base : Nat) (v : Value) (l : List (Item × Value)) (hs : a.eval s = v) (hown : OwnI base w v l) (ad : Addr) (c : Nat) (q : Item × Value) (hq : ∃ p n c, q.2 = .slice p n c) (hx : a.eval x = .slice (some ad) 1 c)
    (hnews : ∀ j u, (itemCells [q])[j]? = some u → w.cell? (ad.add j) = some u) (h63 : l.length ≤ 1099511627776) (hbase : base ≤ w.heap.size)
    (hK : ∀ v' w', OwnI base w' v' (l ++ [q]) → w.grownBy w' v.ownBlock → (v'.ownBlock = v.ownBlock ∨ v'.ownBlock = some w.heap.size) → wpList Tryz.prog ops Q rest (a.put o.dst v') w') : wpList Tryz.prog ops Q (o :: rest) a w := by
  obtain ⟨v', w', hrun, r1, r2, r3⟩ := run_appendI hown ad c q hq hnews h63 hbase o.type
  refine wpList_plain hgd fun _ hK' => ?_
  unfold Oper.wp
  simp [execOp, ho, resolve, invoke, builtin, hs, hx, hrun, Result.andThen]
  exact hK' _ _ (hK v' w' r1 r2 r3)
theorem GivesI.form {w w' : World} {x : Item} {e : Ending} (h : GivesI w x e w') : ∃ p n c, e = .returned (.agg #[.bool x.isList, .string ⟨x.text.toArray⟩, .slice p n c]) ∧ RIn w' w.heap.size (.slice p n c) x.list ∧ Below w.heap.size w w' := by
  obtain ⟨v, h1, h2, h3⟩ := h
  obtain ⟨p, c, rfl⟩ := h2.form
  exact ⟨p, _, c, h1, h2, h3⟩
def NodeC (f : Nat) : Prop := ∀ (ps : List PairD) (d : Nat) (v : Value) (w : World), Pairs w v ps → Valid ps d → Fair ps → ps.length ≤ 1000 → 129 ≤ d + f →
  Calls Tryz.prog 38 #[v, .int .i64 d] w (GivesI w (nodeP keccakL f ps d))
def BytesC (f : Nat) : Prop := ∀ (ps : List PairD) (d : Nat) (v : Value) (w : World), Pairs w v ps → Valid ps d → Fair ps → ps.length ≤ 1000 → 129 ≤ d + f →
  Calls Tryz.prog 20 #[v, .int .i64 d] w fun e w' => e = .returned (.string ⟨(bytesP keccakL f ps d).toArray⟩) ∧ Below w.heap.size w w'
def RefC (f : Nat) : Prop := ∀ (ps : List PairD) (d : Nat) (v : Value) (w : World), Pairs w v ps → Valid ps d → Fair ps → ps.length ≤ 1000 → 129 ≤ d + f →
  Calls Tryz.prog 70 #[v, .int .i64 d] w (GivesI w (refI keccakL (nodeP keccakL f ps d)))
set_option maxRecDepth 100000 in
set_option maxHeartbeats 1600000 in
theorem bytesRef_of (f : Nat) (hN : NodeC f) : BytesC f := by
  intro ps d v w hv hval hf hlen hfd
  obtain ⟨b, hfit⟩ := node_fit (K := keccakL) keccakL_length f ps d hval hf hfd
  have hsz := fit_size hfit
  have H1 := Lib.hid (hN ps d v w hv hval hf hlen hfd)
  obtain ⟨x, hx⟩ : ∃ x, nodeP keccakL f ps d = x := ⟨_, rfl⟩
  have hby : bytesP keccakL f ps d = put x := by unfold bytesP; rw [hfit.encode, hx]
  rw [hx] at hfit hsz H1
  rw [hby]
  have HE := Lib.hid (fun v W (hr : Reads W W.heap.size v x.list) => encodeRef_l hfit.encode v W hsz.1 hsz.2 hr)
  obtain ⟨p, hp⟩ : ∃ p, put x = p := ⟨_, rfl⟩
  rw [hp] at HE ⊢
  clear hN hfit hsz hx hby hp hv hval hf
  go_enter Tryz.func20, Tryz.ntmps20
  go_wp2_with fail
  refine H1.out.mono ?_
  intro e w1 hg
  obtain ⟨q, n, c, rfl, hr, hb1⟩ := hg.form
  have H2 := Lib.hid (HE.out _ w1 hr.reads)
  have HB := Lib.hid hb1
  clear hg hr hb1
  go_wp2_with fail
  refine H2.out.mono ?_
  rintro e w2 ⟨rfl, hb2⟩
  have HB2 := Lib.hid (HB.out.trans (hb2.mono HB.out.size))
  clear hb2
  go_wp2
  go_ret
  exact ⟨rfl, HB2.out⟩
set_option maxRecDepth 100000 in
set_option maxHeartbeats 3200000 in
theorem referenceRef_of (f : Nat) (hN : NodeC f) : RefC f := by
  intro ps d v w hv hval hf hlen hfd
  have hB := bytesRef_of f hN
  have hlo := laid1 w (.cells itemZ.toArray 46)
  obtain ⟨w0, hw0⟩ : ∃ W, w.alloc (.cells itemZ.toArray 46) = W := ⟨_, rfl⟩
  have hq0 : HasCells w0 w.heap.size itemZ 46 := by rw [← hw0]; exact HasCells.new w itemZ 46
  have hs0 : w0.heap.size = w.heap.size + 1 := by rw [← hw0]; simp
  rw [hw0] at hlo
  have HW0 := Lib.hid (show w.alloc (.cells #[.bool false, .string ⟨#[]⟩, .slice none 0 0] 46) = w0 from hw0)
  have H1 := Lib.hid (hB ps d v w0 (hv.after hlo) hval hf hlen hfd)
  have H2 := Lib.hid (fun W (hb : Below w0.heap.size w0 W) => hN ps d v W ((hv.after hlo).after hb) hval hf hlen hfd)
  obtain ⟨b, hfit⟩ := node_fit (K := keccakL) keccakL_length f ps d hval hf hfd
  have hsz := hfit.short
  obtain ⟨x, hx⟩ : ∃ x, nodeP keccakL f ps d = x := ⟨_, rfl⟩
  have hby : bytesP keccakL f ps d = put x := by unfold bytesP; rw [hfit.encode, hx]
  rw [hx] at hfit hsz H2 ⊢
  rw [hby] at H1
  have hrf := hfit.refs (K := keccakL)
  obtain ⟨p, hp⟩ : ∃ p, put x = p := ⟨_, rfl⟩
  obtain ⟨k, hk⟩ : ∃ k, keccakL p = k := ⟨_, rfl⟩
  rw [hp] at H1 hrf hsz
  rw [hk] at hrf
  have H3 := Lib.hid (fun W => rkSum_l hk (by omega) W)
  have hsp : (⟨p.toArray⟩ : ByteArray).size = p.length := rfl
  obtain ⟨pl, hpl⟩ : ∃ n, p.length = n := ⟨_, rfl⟩
  rw [hpl] at hsp hrf
  have HLO := Lib.hid hlo
  have HQ0 := Lib.hid hq0
  have HRF := Lib.hid hrf
  have HS0 := Lib.hid hs0
  have hcase : pl < 32 ∨ ¬ pl < 32 := by omega
  clear hN hB hfit hsz hx hby hp hv hval hf hk hpl hrf hlo hq0 hw0 hs0
  rcases hcase with hl | hl
  · have g1 : (pl : Int) < 32 := by omega
    have HR := Lib.hid (show refI keccakL x = x from by rcases HRF.out with ⟨h, _⟩ | ⟨_, h⟩; · exact h
                                                        · omega)
    rw [HR.out]
    clear HR hl
    go_enter Tryz.func70, Tryz.ntmps70
    go_wp2_with fail
    rw [HW0.out]
    refine H1.out.mono ?_
    rintro e w1 ⟨rfl, hb1⟩
    have HB1 := Lib.hid hb1
    clear hb1
    go_wp2_with fail
    refine (H2.out _ HB1.out).mono ?_
    intro e w2 hg
    obtain ⟨q, n, c, rfl, hr, hb2⟩ := hg.form
    have HQ2 := Lib.hid (HQ0.out.after (HB1.out.trans (hb2.mono HB1.out.size)))
    have HB2 := Lib.hid (HLO.out.trans ((HB1.out.trans (hb2.mono HB1.out.size)).mono HLO.out.size))
    have HR2 := Lib.hid (show RIn w2 (w.heap.size + 1) (.slice q n c) x.list from hr.mono (by have := HB1.out.size; have := HS0.out; omega))
    have e0 := HQ2.out.cell (j := 0) rfl
    have e1 := HQ2.out.cell (j := 1) rfl
    have e2 := HQ2.out.cell (j := 2) rfl
    have f0 := HQ2.out.frozen 0
    have f1 := HQ2.out.frozen 1
    have f2 := HQ2.out.frozen 2
    clear hg hr hb2
    go_wp2_with fail
    have hf := ((HQ2.out.set 0 (.bool x.isList)).set 1 (.string ⟨x.text.toArray⟩)).set 2 (.slice q n c)
    refine bodyPost_ret (v := .agg #[.bool x.isList, .string ⟨x.text.toArray⟩, .slice q n c]) (results_cells rfl _ _ w.heap.size [.bool x.isList, .string ⟨x.text.toArray⟩, .slice q n c] _ (by rfl) hf.range Tryz.underlying46 rfl infoItemS) rfl ?_
    exact ⟨_, rfl, (three_reads HR2.out _ _ _).mono (by omega), three_below HB2.out _ _ _⟩
  · have g1 : ¬ ((pl : Int) < 32) := by omega
    have g2 : decide ((pl : Int) < 32) = false := decide_eq_false g1
    have HR := Lib.hid (show refI keccakL x = txtI k from by rcases HRF.out with ⟨_, h⟩ | ⟨h, _⟩; · omega
                                                             · exact h)
    rw [HR.out]
    clear HR hl
    go_enter Tryz.func70, Tryz.ntmps70
    go_wp2_with fail
    rw [HW0.out]
    refine H1.out.mono ?_
    rintro e w1 ⟨rfl, hb1⟩
    have HB1 := Lib.hid hb1
    clear hb1
    go_wp2_with fail
    refine (H3.out _).mono ?_
    rintro e w2 ⟨rfl, hb2⟩
    have HQ2 := Lib.hid (HQ0.out.after (HB1.out.trans (hb2.mono HB1.out.size)))
    have HB2 := Lib.hid (HLO.out.trans ((HB1.out.trans (hb2.mono HB1.out.size)).mono HLO.out.size))
    have e0 := HQ2.out.cell (j := 0) rfl
    have e1 := HQ2.out.cell (j := 1) rfl
    have e2 := HQ2.out.cell (j := 2) rfl
    have f0 := HQ2.out.frozen 0
    have f1 := HQ2.out.frozen 1
    have f2 := HQ2.out.frozen 2
    clear hb2
    go_wp2_with fail
    have hf := ((HQ2.out.set 0 (.bool false)).set 1 (.string ⟨k.toArray⟩)).set 2 (.slice none 0 0)
    refine bodyPost_ret (v := .agg #[.bool false, .string ⟨k.toArray⟩, .slice none 0 0]) (results_cells rfl _ _ w.heap.size [.bool false, .string ⟨k.toArray⟩, .slice none 0 0] _ (by rfl) hf.range Tryz.underlying46 rfl infoItemS) rfl ?_
    exact ⟨_, rfl, RIn.nil _ _, three_below HB2.out _ _ _⟩
end Go.Proofs.YthicdhnjincflaaGreatDoor
/- Contract of the reference's Node: the node of pairs. -/
namespace Go.Proofs.YthicdhnjincflaaGreatDoor
open Go.RowKit Go.Shelf Go.Lib
attribute [local go_sem] Oper.semAt_some
set_option maxRecDepth 100000 in
set_option maxHeartbeats 6400000 in
theorem nodeRef_one (q : PairD) (f d : Nat) (v : Value) (w : World) (hv : Pairs w v [q]) (hval : Valid [q] d) : Calls Tryz.prog 38 #[v, .int .i64 d] w (GivesI w (nodeP keccakL (f + 1) [q] d)) := by
  show Calls _ _ _ _ (GivesI w (leafI ((pth q).drop d) q.2))
  obtain ⟨p, c, rfl⟩ := hv.form
  obtain ⟨-, bk, ob, rfl, hbk, hcl⟩ := hv.at (by simp)
  obtain ⟨c0, c1⟩ := hcl 0 q rfl
  have hq := hval.2 q List.mem_cons_self
  have hql := pth_len hq
  simp only [Nat.zero_mul, Nat.add_zero] at c0 c1
  have hlo := laid1 w (.cells itemZ.toArray 46)
  obtain ⟨w0, hw0⟩ : ∃ W, w.alloc (.cells itemZ.toArray 46) = W := ⟨_, rfl⟩
  have hq0 : HasCells w0 w.heap.size itemZ 46 := by rw [← hw0]; exact HasCells.new w itemZ 46
  have hs0 : w0.heap.size = w.heap.size + 1 := by rw [← hw0]; simp
  rw [hw0] at hlo
  have HW0 := Lib.hid (show w.alloc (.cells #[.bool false, .string ⟨#[]⟩, .slice none 0 0] 46) = w0 from hw0)
  obtain ⟨P0, hP0⟩ : ∃ P, pth q = P := ⟨_, rfl⟩
  rw [hP0] at hq ⊢
  have H1 := Lib.hid (fun W => ofRef_l (l := q.1) (p := P0) hP0 (by omega) W)
  obtain ⟨D0, hD0⟩ : ∃ D, P0.drop d = D := ⟨_, rfl⟩
  have HX := Lib.hid (show (⟨P0.toArray⟩ : ByteArray).extract d P0.length = ⟨D0.toArray⟩ from by rw [← hD0]; exact cut_ahead _ _)
  have hs : (⟨P0.toArray⟩ : ByteArray).size = P0.length := rfl
  have hdl : D0.length ≤ 128 := by rw [← hD0, List.length_drop]; omega
  rw [hD0]
  obtain ⟨p0, hp0⟩ : ∃ n, P0.length = n := ⟨_, rfl⟩
  rw [hp0] at hq hs HX
  have H2 := Lib.hid (fun W => formRefI_any D0 true W (by omega))
  obtain ⟨fm, hfm⟩ : ∃ s, (form D0 true).1 = s := ⟨_, rfl⟩
  have HFI := Lib.hid (show formI D0 true = txtI fm from by unfold formI; rw [hfm])
  rw [HFI.out, show itemV (txtI fm) (.slice none 0 0) = .agg #[.bool false, .string ⟨fm.toArray⟩, .slice none 0 0] from rfl] at H2
  have HS := Lib.hid (fun W (hb : Below w0.heap.size w0 W) => (show W.cell? ⟨bk, ob, none⟩ = some (.string ⟨q.1.toArray⟩) ∧ W.cell? ⟨bk, ob + 1, none⟩ = some (.string ⟨q.2.toArray⟩) from
    ⟨((hlo.trans (hb.mono hlo.size)).cell (p := ⟨bk, ob, none⟩) hbk).trans c0, ((hlo.trans (hb.mono hlo.size)).cell (p := ⟨bk, ob + 1, none⟩) hbk).trans c1⟩))
  have HLO := Lib.hid hlo
  have HQ0 := Lib.hid hq0
  have HS0 := Lib.hid hs0
  have HGI := Lib.hid (show leafI D0 q.2 = lstI [txtI fm, txtI q.2] from by unfold leafI; rw [HFI.out])
  rw [HGI.out]
  have HBK := Lib.hid (show bk ≠ w.heap.size from by omega)
  have i0 : (0 : Int) ≤ d := by omega
  have i1 : (d : Int) ≤ p0 := by omega
  clear hv hval hcl c0 c1 hlo hq0 hw0 hs0 hP0 hD0 hp0 hfm HGI HFI
  go_enter Tryz.func38, Tryz.ntmps38
  go_wp2_with fail
  rw [HW0.out]
  have b0 : Below w0.heap.size w0 w0.drew := (Below.refl _ _).drew
  refine wp_region_held_drew (S := (fun W => W.cell? ⟨bk, ob, none⟩ = some (.string ⟨q.1.toArray⟩) ∧ W.cell? ⟨bk, ob + 1, none⟩ = some (.string ⟨q.2.toArray⟩))) (by kernel_rfl) (HS.out _ b0) (fun hHeld => ?_)
  refine wpAnyH_take (i := 0) (v := ?_) rfl (by kernel_rfl) (by kernel_rfl) (by kernel_rfl) (fun _ _ _ h => h) (.inl ⟨by rfl, ?_⟩) (by assumption) ?_
  rotate_left 1
  · intro w0 hSw
    go_simp <;> with_reducible rfl
  try simp only [Act.put, zq1, zq2, zq4, zq5, zq6]
  refine wpAnyH_take (i := 1) (v := ?_) rfl (by kernel_rfl) (by kernel_rfl) (by kernel_rfl) (fun _ _ _ h => h) (.inl ⟨by rfl, ?_⟩) (by assumption) ?_
  rotate_left 1
  · intro w0 hSw
    go_simp <;> with_reducible rfl
  try simp only [Act.put, zq1, zq2, zq3, zq4, zq5, zq6]
  refine wpAnyH_take (i := 2) (v := ?_) rfl (by kernel_rfl) (by kernel_rfl) (by kernel_rfl) (fun _ _ _ h => h) (.inl ⟨by rfl, ?_⟩) (by assumption) ?_
  rotate_left 1
  · intro w0 hSw
    go_simp <;> with_reducible rfl
  try simp only [Act.put, zq1, zq2, zq3, zq4, zq5, zq6]
  refine wpAnyH_take (i := 3) (v := ?_) rfl (by kernel_rfl) (by kernel_rfl) (by kernel_rfl) (fun _ _ _ h => h) (.inl ⟨by rfl, ?_⟩) (by assumption) ?_
  rotate_left 1
  · intro w0 hSw
    obtain ⟨z0, z1⟩ := hSw
    go_simp <;> with_reducible rfl
  try simp only [Act.put, zq1, zq2, zq3, zq4, zq5, zq6]
  refine wpAnyH_take (i := 5) (v := ?_) rfl (by kernel_rfl) (by kernel_rfl) (by kernel_rfl) (fun _ _ _ h => h) (.inl ⟨by rfl, ?_⟩) (by assumption) ?_
  rotate_left 1
  · intro w0 hSw
    go_simp <;> with_reducible rfl
  try simp only [Act.put, zq1, zq2, zq3, zq4, zq5, zq6]
  refine wpAnyH_take (i := 8) (v := ?_) rfl (by kernel_rfl) (by kernel_rfl) (by kernel_rfl) (fun _ _ _ h => h) (.inl ⟨by rfl, ?_⟩) (by assumption) ?_
  rotate_left 1
  · intro w0 hSw
    go_simp <;> with_reducible rfl
  try simp only [Act.put, zq1, zq2, zq3, zq4, zq5, zq6]
  refine wpAnyH_take (i := 9) (v := ?_) rfl (by kernel_rfl) (by kernel_rfl) (by kernel_rfl) (fun _ _ _ h => h) (.inl ⟨by rfl, ?_⟩) (by assumption) ?_
  rotate_left 1
  · intro w0 hSw
    go_simp <;> with_reducible rfl
  try simp only [Act.put, zq1, zq2, zq3, zq4, zq5, zq6]
  refine wpAnyH_take (i := 10) (v := ?_) rfl (by kernel_rfl) (by kernel_rfl) (by kernel_rfl) (fun _ _ _ h => h) (.inl ⟨by rfl, ?_⟩) (by assumption) ?_
  rotate_left 1
  · intro w0 hSw
    go_simp <;> with_reducible rfl
  try simp only [Act.put, zq1, zq2, zq3, zq4, zq5, zq6]
  refine wpAnyH_take (i := 11) (v := ?_) rfl (by kernel_rfl) (by kernel_rfl) (by kernel_rfl) (fun _ _ _ h => h) (.inl ⟨by rfl, ?_⟩) (by assumption) ?_
  rotate_left 1
  · intro w0 hSw
    obtain ⟨z0, z1⟩ := hSw
    go_simp <;> with_reducible rfl
  try simp only [Act.put, zq1, zq2, zq3, zq4, zq5, zq6]
  refine wpAnyH_take (i := 12) (v := ?_) rfl (by kernel_rfl) (by kernel_rfl) (by kernel_rfl) (fun _ _ _ h => h) (.inl ⟨by rfl, ?_⟩) (by assumption) ?_
  rotate_left 1
  · intro w0 hSw
    go_simp <;> with_reducible rfl
  try simp only [Act.put, zq1, zq2, zq3, zq4, zq5, zq6]
  refine wpAnyH_ready (rs := [4]) (by kernel_rfl) (by simp) ?_
  refine AllReadyH.cons rfl (fun K hK => ?_) AllReadyH.nil
  go_simp
  go_at_call 40
  refine (H1.out _).mono ?_
  rintro e w1 ⟨rfl, hb1⟩
  have b1 := b0.trans (hb1.mono b0.size)
  clear hb1
  refine hK.out _ _ (HS.out _ b1) (fun hHeld => ?_)
  clear hK K
  try simp only [Act.put, zq1, zq2, zq3, zq4, zq5, zq6]
  refine wpAnyH_take (i := 6) (v := ?_) rfl (by kernel_rfl) (by kernel_rfl) (by kernel_rfl) (fun _ _ _ h => h) (.inl ⟨by rfl, ?_⟩) (by assumption) ?_
  rotate_left 1
  · intro w0 hSw
    go_simp <;> with_reducible rfl
  try simp only [Act.put, zq1, zq2, zq3, zq4, zq5, zq6]
  refine wpAnyH_ready (rs := [7]) (by kernel_rfl) (by simp) ?_
  refine AllReadyH.cons rfl (fun K hK => ?_) AllReadyH.nil
  try rw [HX.out]
  go_simp
  try rw [HX.out]
  go_at_call 68
  refine (H2.out _).mono ?_
  rintro e w2 ⟨rfl, hb2⟩
  have b2 := b1.trans (hb2.mono b1.size)
  clear hb2
  refine hK.out _ _ (HS.out _ b2) (fun hHeld => ?_)
  clear hK K
  try simp only [Act.put, zq1, zq2, zq3, zq4, zq5, zq6]
  refine wpAnyH_ready (rs := [13]) (by kernel_rfl) (by simp) ?_
  refine AllReadyH.cons rfl (fun K hK => ?_) AllReadyH.nil
  go_simp
  obtain ⟨w3, hal⟩ : ∃ W, w2.alloc (.cells #[.bool false, .string ⟨fm.toArray⟩, .slice none 0 0, .bool false, .string ⟨q.2.toArray⟩, .slice none 0 0] 46) = W := ⟨_, rfl⟩
  have hb3 : Below w2.heap.size w2 w3 := by rw [← hal]; exact laid1 w2 _
  have b3 := b2.trans (hb3.mono b2.size)
  have HR3 := Lib.hid (show RIn w3 (w.heap.size + 1) (.slice (some ⟨w2.heap.size, 0, none⟩) 2 2) [txtI fm, txtI q.2] from by
    rw [← hal]
    have h := b2.size
    have h2 := HS0.out
    refine reads_new w2 (w.heap.size + 1) 2 [(txtI fm, .slice none 0 0), (txtI q.2, .slice none 0 0)] rfl (by omega) (fun x hx => ?_)
    simp only [List.mem_cons, List.not_mem_nil, or_false] at hx
    rcases hx with rfl | rfl <;> exact RIn.nil _ _)
  have hq3 := HQ0.out.after b3
  have HQ3 := Lib.hid hq3
  have HB3 := Lib.hid (HLO.out.trans (b3.mono HLO.out.size))
  have e0 := hq3.cell (j := 0) rfl
  have e1 := hq3.cell (j := 1) rfl
  have e2 := hq3.cell (j := 2) rfl
  have f0 := hq3.frozen 0
  have f1 := hq3.frozen 1
  have f2 := hq3.frozen 2
  clear hq3
  rw [show w2.alloc (.cells #[.bool false, .string ⟨fm.toArray⟩, .slice none 0 0, .bool false, .string ⟨q.2.toArray⟩, .slice none 0 0] 46) = w3 from hal]
  clear hal hb3
  refine hK.out _ _ (HS.out _ b3) (fun hHeld => ?_)
  clear hK K
  try simp only [Act.put, zq1, zq2, zq3, zq4, zq5, zq6]
  refine wpAnyH_take (i := 14) (v := ?_) rfl (by kernel_rfl) (by kernel_rfl) (by kernel_rfl) (fun _ _ _ h => h) (.inl ⟨by rfl, ?_⟩) (by assumption) ?_
  rotate_left 1
  · intro w0 hSw
    go_simp <;> with_reducible rfl
  try simp only [Act.put, zq1, zq2, zq3, zq4, zq5, zq6]
  refine wpAnyH_ready (rs := [15]) (by kernel_rfl) (by simp) ?_
  refine AllReadyH.cons rfl (fun K hK => ?_) AllReadyH.nil
  go_simp
  refine hK.out _ _ (⟨three_other hHeld.1 HBK.out _ _ _, three_other hHeld.2 HBK.out _ _ _⟩) (fun hHeld => ?_)
  clear hK K
  try simp only [Act.put, zq1, zq2, zq3, zq4, zq5, zq6]
  refine wpAnyH_done (by kernel_rfl) ?_ 0
  clear hHeld
  go_wp2_with fail
  have hf := ((HQ3.out.set 0 (.bool true)).set 1 (.string ⟨#[]⟩)).set 2 (.slice (some ⟨w2.heap.size, 0, none⟩) 2 2)
  refine bodyPost_ret (v := .agg #[.bool true, .string ⟨#[]⟩, .slice (some ⟨w2.heap.size, 0, none⟩) 2 2]) (results_cells rfl _ _ w.heap.size [.bool true, .string ⟨#[]⟩, .slice (some ⟨w2.heap.size, 0, none⟩) 2 2] _ (by rfl) hf.range Tryz.underlying46 rfl infoItemS) rfl ?_
  exact ⟨_, rfl, (three_reads HR3.out _ _ _).mono (by omega), three_below HB3.out _ _ _⟩
end Go.Proofs.YthicdhnjincflaaGreatDoor
/- Contract of the reference's Node: more pairs; and of the three functions of a node, at every fuel. -/
namespace Go.Proofs.YthicdhnjincflaaGreatDoor
open Go.RowKit Go.Shelf Go.Lib
attribute [local go_sem] Oper.semAt_some
set_option maxRecDepth 100000 in
set_option maxHeartbeats 6400000 in
theorem nodeRef_ext (f : Nat) (hR : RefC f) (q q2 : PairD) (r : List PairD) (d : Nat) (v : Value) (w : World) (hv : Pairs w v (q :: q2 :: r)) (hval : Valid (q :: q2 :: r) d) (hfa : Fair (q :: q2 :: r)) (hlen : (q :: q2 :: r).length ≤ 1000) (hfd : 129 ≤ d + (f + 1)) (hn : 0 < alikeP (q :: q2 :: r) d) :
    Calls Tryz.prog 38 #[v, .int .i64 d] w (GivesI w (nodeP keccakL (f + 1) (q :: q2 :: r) d)) := by
  rw [node_two, if_pos hn]
  have hq := hval.2 q List.mem_cons_self
  have hql := pth_len hq
  have hal := alike_len (d := d) (x := q) (ps := q :: q2 :: r) List.mem_cons_self
  have hve := valid_ext hval
  obtain ⟨p, c, rfl⟩ := hv.form
  obtain ⟨-, bk, ob, rfl, hbk, hcl⟩ := hv.at (by simp)
  have hlo := laid1 w (.cells itemZ.toArray 46)
  obtain ⟨w0, hw0⟩ : ∃ W, w.alloc (.cells itemZ.toArray 46) = W := ⟨_, rfl⟩
  have hq0 : HasCells w0 w.heap.size itemZ 46 := by rw [← hw0]; exact HasCells.new w itemZ 46
  have hs0 : w0.heap.size = w.heap.size + 1 := by rw [← hw0]; simp
  rw [hw0] at hlo
  have HW0 := Lib.hid (show w.alloc (.cells #[.bool false, .string ⟨#[]⟩, .slice none 0 0] 46) = w0 from hw0)
  have HV0 := Lib.hid (hv.after hlo)
  have hd := valid_le hval
  obtain ⟨ln, hln⟩ : ∃ n, (q :: q2 :: r).length = n := ⟨_, rfl⟩
  have hl2 : 2 ≤ ln := by rw [← hln]; simp
  have HLO := Lib.hid hlo
  have HQ0 := Lib.hid hq0
  have HS0 := Lib.hid hs0
  have H1 := Lib.hid (fun W (hb : Below w0.heap.size w0 W) => alikeRef_any q (q2 :: r) d _ W (HV0.out.after hb) hval hlen)
  obtain ⟨n, hne⟩ : ∃ n, alikeP (q :: q2 :: r) d = n := ⟨_, rfl⟩
  rw [hne] at hn hal H1 hve ⊢
  have H4 := Lib.hid (fun W (hb : Below w0.heap.size w0 W) => hR (q :: q2 :: r) (d + n) _ W (HV0.out.after hb) hve hfa hlen (by omega))
  obtain ⟨P0, hP0⟩ : ∃ P, pth q = P := ⟨_, rfl⟩
  rw [hP0] at hq hal ⊢
  have H2 := Lib.hid (fun W => ofRef_l (l := q.1) (p := P0) hP0 (by omega) W)
  obtain ⟨D0, hD0⟩ : ∃ D, (P0.drop d).take n = D := ⟨_, rfl⟩
  obtain ⟨dn, hdn⟩ : ∃ m, d + n = m := ⟨_, rfl⟩
  have HX := Lib.hid (show (⟨P0.toArray⟩ : ByteArray).extract d dn = ⟨D0.toArray⟩ from by rw [← hD0, ← hdn]; exact cut_both _ _ _)
  have hs : (⟨P0.toArray⟩ : ByteArray).size = P0.length := rfl
  have hdl : D0.length ≤ 128 := by rw [← hD0, List.length_take, List.length_drop]; omega
  rw [hD0, hdn]
  rw [hdn] at H4
  obtain ⟨p0, hp0⟩ : ∃ n, P0.length = n := ⟨_, rfl⟩
  rw [hp0] at hq hs hal
  have H3 := Lib.hid (fun W => formRefI_any D0 false W (by omega))
  obtain ⟨fm, hfm⟩ : ∃ s, (form D0 false).1 = s := ⟨_, rfl⟩
  have HFI := Lib.hid (show formI D0 false = txtI fm from by unfold formI; rw [hfm])
  rw [HFI.out, show itemV (txtI fm) (.slice none 0 0) = .agg #[.bool false, .string ⟨fm.toArray⟩, .slice none 0 0] from rfl] at H3
  obtain ⟨rx, hrx⟩ : ∃ x, refI keccakL (nodeP keccakL f (q :: q2 :: r) dn) = x := ⟨_, rfl⟩
  rw [hrx] at H4 ⊢
  have HGI := Lib.hid (show extI D0 rx = lstI [txtI fm, rx] from by unfold extI; rw [HFI.out])
  rw [HGI.out]
  have HC := Lib.hid (fun W (hb : Below w0.heap.size w0 W) => (show W.cell? ⟨bk, ob, none⟩ = some (.string ⟨q.1.toArray⟩) from by
    have h := (hcl 0 q rfl).1
    simp only [Nat.zero_mul, Nat.add_zero] at h
    exact ((hlo.trans (hb.mono hlo.size)).cell (p := ⟨bk, ob, none⟩) hbk).trans h))
  have e9 : (d : Int) + (n : Int) = (dn : Int) := by omega
  have i0 : (0 : Int) ≤ d := by omega
  have i1 : (d : Int) ≤ dn := by omega
  have i2 : (dn : Int) ≤ p0 := by omega
  have i3 : (0 : Int) < n := by omega
  have i4 : (dn : Int) ≤ 128 := by omega
  have i5 : ((ln : Int) == 1) = false := by simp; omega
  have i6 : ¬ ((ln : Int) = 1) := by omega
  rw [hln] at H1 H4 ⊢
  clear hv hval hve hcl hlo hq0 hw0 hs0 hP0 hD0 hp0 hfm HGI HFI hR hdn hrx hne hfa hlen hln
  go_enter Tryz.func38, Tryz.ntmps38
  go_wp2_with fail
  rw [HW0.out]
  refine (H1.out _ (Below.refl _ _)).mono ?_
  rintro e w1 ⟨rfl, hb1⟩
  have HB1 := Lib.hid hb1
  have c0 := HC.out _ hb1
  clear hb1
  go_wp2_with fail
  refine (H2.out _).mono ?_
  rintro e w2 ⟨rfl, hb2⟩
  have HB2 := Lib.hid (HB1.out.trans (hb2.mono HB1.out.size))
  clear hb2 c0
  go_wp2_with (rw [HX.out])
  refine (H3.out _).mono ?_
  rintro e w3 ⟨rfl, hb3⟩
  have HB3 := Lib.hid (HB2.out.trans (hb3.mono HB2.out.size))
  clear hb3
  go_wp2_with fail
  refine (H4.out _ HB3.out).mono ?_
  intro e w4 hg
  obtain ⟨vp, vn, vc, rfl, hr, hb4⟩ := hg.form
  have hb04 := HB3.out.trans (hb4.mono HB3.out.size)
  obtain ⟨w5, hal5⟩ : ∃ W, w4.alloc (.cells #[.bool false, .string ⟨fm.toArray⟩, .slice none 0 0, .bool rx.isList, .string ⟨rx.text.toArray⟩, .slice vp vn vc] 46) = W := ⟨_, rfl⟩
  have hb5 : Below w4.heap.size w4 w5 := by rw [← hal5]; exact laid1 w4 _
  have b5 := hb04.trans (hb5.mono hb04.size)
  have HR5 := Lib.hid (show RIn w5 (w.heap.size + 1) (.slice (some ⟨w4.heap.size, 0, none⟩) 2 2) [txtI fm, rx] from by
    rw [← hal5]
    have h := hb04.size
    have h2 := HS0.out
    have h3 := HB3.out.size
    refine reads_new w4 (w.heap.size + 1) 2 [(txtI fm, .slice none 0 0), (rx, .slice vp vn vc)] rfl (by omega) (fun x hx => ?_)
    simp only [List.mem_cons, List.not_mem_nil, or_false] at hx
    rcases hx with rfl | rfl
    · exact RIn.nil _ _
    · exact hr.mono (by omega))
  have hq5 := HQ0.out.after b5
  have HQ5 := Lib.hid hq5
  have HB5 := Lib.hid (HLO.out.trans (b5.mono HLO.out.size))
  have HAL := Lib.hid hal5
  have e0 := hq5.cell (j := 0) rfl
  have e1 := hq5.cell (j := 1) rfl
  have e2 := hq5.cell (j := 2) rfl
  have f0 := hq5.frozen 0
  have f1 := hq5.frozen 1
  have f2 := hq5.frozen 2
  clear hg hr hb4 hb04 hb5 b5 hal5 hq5
  go_wp2_with (rw [HAL.out])
  have hf := ((HQ5.out.set 0 (.bool true)).set 1 (.string ⟨#[]⟩)).set 2 (.slice (some ⟨w4.heap.size, 0, none⟩) 2 2)
  refine bodyPost_ret (v := .agg #[.bool true, .string ⟨#[]⟩, .slice (some ⟨w4.heap.size, 0, none⟩) 2 2]) (results_cells rfl _ _ w.heap.size [.bool true, .string ⟨#[]⟩, .slice (some ⟨w4.heap.size, 0, none⟩) 2 2] _ (by rfl) hf.range Tryz.underlying46 rfl infoItemS) rfl ?_
  exact ⟨_, rfl, (three_reads HR5.out _ _ _).mono (by omega), three_below HB5.out _ _ _⟩
theorem OwnI.blk {base : Nat} {w w' : World} {v : Value} {l : List (Item × Value)} (h : OwnI base w v l) (hb : ∀ k, v.ownBlock = some k → w'.heap[k]? = w.heap[k]?) : OwnI base w' v l := by
  obtain ⟨h1, h2⟩ := h
  refine ⟨h1, ?_⟩
  rcases h2 with h2 | ⟨g, cap, cur, hv, hg, hh, r⟩
  · exact .inl h2
  · exact .inr ⟨g, cap, cur, hv, hg, by rw [hb g (by rw [hv]; rfl)]; exact hh, r⟩
theorem RowI.setLow {B : Nat} {W : World} {v : Value} {l : List (Item × Value)} (h : RowI B W v l) {g j : Nat} (hg : g < B) (u : Value) : RowI B (W.setCell ⟨g, j, none⟩ u) v l :=
  ⟨h.1.blk fun k e => Below.heap_setCell W ⟨g, j, none⟩ u k (by have := (h.1.lt' k e).1; show k ≠ g; omega), fun q hq => (h.2 q hq).kept (fun k u' o hk hc => (World.cell?_setCell_other _ _ _ _ (fun e => by cases e; have := hk.1; omega)).trans hc) (fun k hk => ⟨hk.1, by rw [World.size_setCell]; exact hk.2.1, hk.2.2⟩)⟩
def childP (f : Nat) (ps : List PairD) (d h : Nat) : Item := match havingP ps d (UInt8.ofNat h) with
  | [] => .none
  | x :: m => refI keccakL (nodeP keccakL f (x :: m) (d + 1))
theorem havingRef_l (ps : List PairD) (d k : Nat) (hk : k < 16) {m : List PairD} (hm : havingP ps d (UInt8.ofNat k) = m) (v : Value) (w : World) (hv : Pairs w v ps) (hlen : ps.length ≤ 1000) (hkl : ∀ q ∈ ps, q.1.length ≤ 64) (hd : d ≤ 100000) :
    Calls Tryz.prog 71 #[v, .int .i64 d, .int .u8 k] w fun e w' => ∃ p c, e = .returned (.slice p m.length c) ∧ OwnP w.heap.size w' (.slice p m.length c) m ∧ Below w.heap.size w w' := by
  subst hm
  have h := havingRef_any ps d (UInt8.ofNat k) v w hv hlen hkl hd
  rw [show (UInt8.ofNat k).toNat = k from headByte (by omega)] at h
  exact h
theorem range_succ_map (g : Nat → Item) (k : Nat) : (List.range (k + 1)).map g = (List.range k).map g ++ [g k] := by rw [List.range_succ, List.map_append]; rfl
theorem having_len (ps : List PairD) (d : Nat) (h : UInt8) : (havingP ps d h).length ≤ ps.length := List.length_filter_le _ _
set_option maxRecDepth 100000 in
set_option maxHeartbeats 12800000 in
theorem nodeRef_br (f : Nat) (hR : RefC f) (q q2 : PairD) (r : List PairD) (d : Nat) (v : Value) (w : World) (hv : Pairs w v (q :: q2 :: r)) (hval : Valid (q :: q2 :: r) d) (hfa : Fair (q :: q2 :: r)) (hlen : (q :: q2 :: r).length ≤ 1000) (hfd : 129 ≤ d + (f + 1)) (hn : ¬ 0 < alikeP (q :: q2 :: r) d) :
    Calls Tryz.prog 38 #[v, .int .i64 d] w (GivesI w (nodeP keccakL (f + 1) (q :: q2 :: r) d)) := by
  rw [node_two, if_neg hn]
  have hkl : ∀ x ∈ q :: q2 :: r, x.1.length ≤ 64 := fun x hx => pth_len (hval.2 x hx)
  obtain ⟨p, c, rfl⟩ := hv.form
  obtain ⟨-, bk, ob, rfl, hbk, hcl⟩ := hv.at (by simp)
  have hlo := laid1 w (.cells itemZ.toArray 46)
  obtain ⟨w0, hw0⟩ : ∃ W, w.alloc (.cells itemZ.toArray 46) = W := ⟨_, rfl⟩
  have hq0 : HasCells w0 w.heap.size itemZ 46 := by rw [← hw0]; exact HasCells.new w itemZ 46
  have hs0 : w0.heap.size = w.heap.size + 1 := by rw [← hw0]; simp
  rw [hw0] at hlo
  have HW0 := Lib.hid (show w.alloc (.cells #[.bool false, .string ⟨#[]⟩, .slice none 0 0] 46) = w0 from hw0)
  have HV0 := Lib.hid (hv.after hlo)
  have hd := valid_le hval
  obtain ⟨ln, hln⟩ : ∃ n, (q :: q2 :: r).length = n := ⟨_, rfl⟩
  have hl2 : 2 ≤ ln := by rw [← hln]; simp
  have HLO := Lib.hid hlo
  have HQ0 := Lib.hid hq0
  have HS0 := Lib.hid hs0
  have H1 := Lib.hid (fun W (hb : Below w0.heap.size w0 W) => alikeRef_any q (q2 :: r) d _ W (HV0.out.after hb) hval hlen)
  rw [show alikeP (q :: q2 :: r) d = 0 from by omega] at H1
  obtain ⟨ps, hps⟩ : ∃ ps, q :: q2 :: r = ps := ⟨_, rfl⟩
  rw [hps] at H1 HV0 hval hfa hlen hkl hln hcl ⊢
  have HH := Lib.hid (fun k (hk : k < 16) m (hm : havingP ps d (UInt8.ofNat k) = m) W (hb : Below w0.heap.size w0 W) => havingRef_l ps d k hk hm _ W (HV0.out.after hb) hlen hkl (by omega))
  have HREF := Lib.hid (fun k x m (hm : havingP ps d (UInt8.ofNat k) = x :: m) V W (hv : Pairs W V (x :: m)) => hR (x :: m) (d + 1) V W hv (valid_having hval hm) (fair_having hfa hm) (by have := having_len ps d (UInt8.ofNat k); rw [hm] at this; omega) (by omega))
  have HEN := Lib.hid (fun W (hb : Below w0.heap.size w0 W) => endingRef_any ps d _ W (HV0.out.after hb) hlen (fun x hx => by have := hkl x hx; omega) (by omega))
  obtain ⟨en, hen⟩ : ∃ e, endingP ps d = e := ⟨_, rfl⟩
  rw [hen] at HEN ⊢
  have HLP := Lib.hid (fun k => (having_len ps d (UInt8.ofNat k)))
  rw [hln] at H1 HH HEN HLP ⊢
  have hl1 : ln ≤ 1000 := by rw [← hln]; exact hlen
  have i5 : ((ln : Int) == 1) = false := by simp; omega
  have i6 : ¬ ((ln : Int) = 1) := by omega
  clear hv hval hcl hlo hq0 hw0 hs0 hR hfa hlen hln hen hn hkl
  go_enter Tryz.func38, Tryz.ntmps38
  go_wp2_with fail
  rw [HW0.out]
  refine (H1.out _ (Below.refl _ _)).mono ?_
  rintro e w1 ⟨rfl, hb1⟩
  obtain ⟨W, hW⟩ : ∃ W, w1.alloc (.cells #[.bool true, .string ⟨#[]⟩, .slice none 0 0] 46) = W := ⟨_, rfl⟩
  have hbW : Below w0.heap.size w0 W := hb1.trans (by rw [← hW]; exact (laid1 w1 _).mono hb1.size)
  have HWW := Lib.hid hW
  have HL0 := Lib.hid (show HasCells W w1.heap.size [.bool true, .string ⟨#[]⟩, .slice none 0 0] 46 from by rw [← hW]; exact HasCells.new w1 _ _)
  have HZ0 := Lib.hid (HQ0.out.after hbW)
  have HBW := Lib.hid hbW
  have HLB := Lib.hid (show w0.heap.size ≤ w1.heap.size ∧ W.heap.size = w1.heap.size + 1 from ⟨hb1.size, by rw [← hW]; simp⟩)
  clear hb1 hbW hW
  go_wp2_with (rw [HWW.out])
  go_loopw [8] (fun i wr => ∃ (k : Nat) (u : Value) (L : List (Item × Value)), k ≤ 16 ∧ i = .int .i64 k ∧ Aside (HasCells wr w1.heap.size [.bool true, .string ⟨#[]⟩, u] 46) ∧ Aside (HasCells wr w.heap.size itemZ 46) ∧ Aside (RowI W.heap.size wr u L) ∧ Aside (L.map Prod.fst = (List.range k).map (childP f ps d)) ∧ Aside (Below w0.heap.size w0 wr) ∧ Aside (W.heap.size ≤ wr.heap.size)) (fun i _ => 16 - (RowKit.intOf i).toNat)
  case atStart => exact ⟨0, _, [], by omega, rfl, HL0.out, HZ0.out, RowI.nil _ _, rfl, HBW.out, Nat.le_refl _⟩
  case round =>
    obtain ⟨k, u, L, hk, rfl, HC, HZ, HO, HLM, HB, HWS⟩ := hrel
    obtain ⟨pv, cv, rfl⟩ := HO.out.form
    obtain ⟨m, hm⟩ : ∃ m, L.length = m := ⟨_, rfl⟩
    have hmk : m = k := by
      have h := congrArg List.length HLM.out
      rw [List.length_map, List.length_map, List.length_range, hm] at h
      exact h
    subst hmk
    rw [hm] at HC HO
    have HM := Lib.hid hm
    clear hm
    by_cases hlt : m < 16
    · obtain ⟨ms, hms⟩ : ∃ l, havingP ps d (UInt8.ofNat m) = l := ⟨_, rfl⟩
      have H2 := Lib.hid (HH.out m hlt ms hms wr HB.out)
      have HMS := Lib.hid hms
      have hml := HLP.out m
      rw [hms] at hml
      have g1 : (0 : Int) ≤ m := by omega
      have g2 : (m : Int) < 16 := by omega
      have g3 : (m : Int) % 256 = m := by omega
      clear hms
      go_wp2_with fail
      refine H2.out.mono ?_
      rintro e w2 ⟨mp, mc, rfl, hom, hb2⟩
      have HB2 := Lib.hid (HB.out.trans (hb2.mono HB.out.size))
      have HBS := Lib.hid hb2
      have HC2 := Lib.hid (HC.out.after hb2)
      have HZ2 := Lib.hid (HZ.out.after hb2)
      have HO2 := Lib.hid (HO.out.after hb2)
      have HPM := Lib.hid hom.pairs
      have hws2 : W.heap.size ≤ w2.heap.size := Nat.le_trans HWS.out hb2.size
      have HVB := Lib.hid (fun g (e : (Value.slice pv m cv).ownBlock = some g) => (HO.out.1.lt' g e).1)
      have HOF := Lib.hid (fun V W' (xs : List Item) (hr : RIn W' w2.heap.size V xs) (_ : Below w2.heap.size w2 W') => HO2.out.fresh hws2 hr)
      clear hom hb2
      cases ms with
      | nil =>
        have HCH := Lib.hid (show childP f ps d m = .none from by unfold childP; rw [HMS.out])
        have c2 := HC2.out.cell (j := 2) rfl
        go_wp2_with (at_builtin; refine wpList_appendJ3 rfl _ _ rfl W.heap.size _ L rfl (HO2.out.after (laid1 _ _)).1 ⟨w2.heap.size, 0, none⟩ 1 (Item.none, .slice none 0 0) ⟨_, _, _, rfl⟩ rfl ?c0 ?c1 ?c2 ?_)
        case c0 => exact fun j u hu => by rw [addr_add']; exact cells_at w2 (itemCells [(Item.none, .slice none 0 0)]) _ j u hu
        case c1 => rw [HM.out]; omega
        case c2 => simp; omega
        intro v3 w3 ho3 hg3 hv3
        have hv3 : v3.ownBlock = (Value.slice pv m cv).ownBlock ∨ v3.ownBlock = some (w2.alloc (.cells #[.bool false, .string ⟨#[]⟩, .slice none 0 0] 46)).heap.size := by simpa using hv3
        have hba := laid1 w2 (.cells #[.bool false, .string ⟨#[]⟩, .slice none 0 0] 46)
        have hr4 : RowI W.heap.size w3 v3 (L ++ [((Item.none, .slice none 0 0) : Item × Value)]) := (HO2.out.after hba).snoc (ReadsIn.nil _ _) ho3 hg3 hv3
        have hsz3 := hba.size
        have hlb3 := HLB.out
        have hs03 := HS0.out
        have hws3 := HWS.out
        have hb4 : Below w0.heap.size w0 w3 := (HB2.out.trans (hba.mono HB2.out.size)).grown hg3 (by have := HB2.out.size; omega) (fun g e => by have := HVB.out g e; omega)
        have hc4 : HasCells w3 w1.heap.size [.bool true, .string ⟨#[]⟩, .slice pv m cv] 46 := (HC2.out.after hba).kept (hg3.block w1.heap.size (by have := HC2.out.lt; omega) (fun e => by have := HVB.out _ e.symm; omega))
        have hz4 : HasCells w3 w.heap.size itemZ 46 := (HZ2.out.after hba).kept (hg3.block w.heap.size (by have := HZ2.out.lt; omega) (fun e => by have := HVB.out _ e.symm; omega))
        have hs4 : W.heap.size ≤ w3.heap.size := by have := hg3.size; omega
        obtain ⟨p4, k4, rfl⟩ := hr4.form
        obtain ⟨m4, hm4⟩ : ∃ m4, (L ++ [((Item.none, .slice none 0 0) : Item × Value)]).length = m4 := ⟨_, rfl⟩
        rw [hm4] at hr4 ⊢
        have c4 := hc4.cell (j := 2) rfl
        have f4 := hc4.frozen 2
        have HM4 := Lib.hid hm4
        clear ho3 hg3 hv3 hm4 hsz3 hlb3 hs03 hws3
        have HR4 := Lib.hid hr4
        have HB4 := Lib.hid hb4
        have HZ4 := Lib.hid hz4
        have HC4 := Lib.hid hc4
        have HS4 := Lib.hid hs4
        clear hr4 hb4 hz4 hc4 hs4
        clear hba c2
        go_wp2_with fail
        have hlb5 := HLB.out
        have hs05 := HS0.out
        refine ⟨⟨m + 1, .slice p4 m4 k4, L ++ [((Item.none, .slice none 0 0) : Item × Value)], by omega, rfl, HC4.out.set 2 _, HZ4.out.setOther (by omega) _, ?_, ?_, HB4.out.setCell (p := ⟨w1.heap.size, 2, none⟩) hlb5.1 _, ?_⟩, ?_⟩
        · exact HR4.out.setLow (by omega) _
        · show (L ++ [((Item.none, .slice none 0 0) : Item × Value)]).map Prod.fst = (List.range (m + 1)).map (childP f ps d)
          rw [List.map_append, HLM.out, range_succ_map, HCH.out]
          rfl
        · show W.heap.size ≤ _
          rw [World.size_setCell]; exact HS4.out
        · show 16 - ((m : Int) + 1).toNat < 16 - ((m : Int)).toNat
          omega
      | cons x xs =>
        obtain ⟨rx, hrx⟩ : ∃ y, refI keccakL (nodeP keccakL f (x :: xs) (d + 1)) = y := ⟨_, rfl⟩
        have H3 := Lib.hid (fun W' (hb : Below w2.heap.size w2 W') => HREF.out m x xs HMS.out _ W' (HPM.out.after hb))
        rw [hrx] at H3
        have HCH := Lib.hid (show childP f ps d m = rx from by unfold childP; rw [HMS.out]; exact hrx)
        obtain ⟨ml, hmll⟩ : ∃ n, (x :: xs).length = n := ⟨_, rfl⟩
        rw [hmll] at H3 hml ⊢
        have hml0 : 0 < ml := by rw [← hmll]; simp
        have g4 : ((ml : Int) == 0) = false := by simp; omega
        have g5 : ¬ ((ml : Int) = 0) := by omega
        have e9 : (d : Int) + 1 = ((d + 1 : Nat) : Int) := by omega
        obtain ⟨d1, hd1⟩ : ∃ n, d + 1 = n := ⟨_, rfl⟩
        rw [hd1] at e9 H3
        have i9 : d1 ≤ 129 := by omega
        have hw9 : IntKind.i64.wrap (d1 : Int) = (d1 : Int) := by rw [IntKind.wrap_i64]; omega
        clear hrx hmll hd1
        go_wp2_with fail
        have b1 : Below w2.heap.size w2 w2.drew := (Below.refl _ _).drew
        have HSF := Lib.hid ((HC2.out.after b1).cell (j := 2) rfl)
        refine wp_region_L (fun Ls w' => Ls.getD 9 true = false → w'.cell? ⟨w1.heap.size, 2, none⟩ = some (.slice pv m cv)) (by kernel_rfl) ?_
        refine wpAnyL_take (i := 0) (v := ?_) (fuel := 9) rfl (by kernel_rfl) (by kernel_rfl) (by kernel_rfl) (by kernel_rfl) (fun _ _ _ h => h) (fun Ls w' => by rw [getD_set_ne true (by omega)]) (fun _ => HSF.out) (.inl ⟨by rfl, ?_⟩) ?_
        rotate_left 1
        · rintro w' ⟨Ls, hcl, h0, hS⟩
          clear hS hcl h0
          go_simp <;> with_reducible rfl
        try simp only [Act.put, zq1, zq2, zq4, zq5, zq6]
        refine wpAnyL_take (i := 1) (v := ?_) (fuel := 8) rfl (by kernel_rfl) (by kernel_rfl) (by kernel_rfl) (by kernel_rfl) (fun _ _ _ h => h) (fun Ls w' => by rw [getD_set_ne true (by omega)]) (fun _ => HSF.out) (.inl ⟨by rfl, ?_⟩) ?_
        rotate_left 1
        · rintro w' ⟨Ls, hcl, h0, hS⟩
          have hSw := hS (closedB_before hcl (i := 1) (by kernel_rfl) h0)
          clear hS hcl h0
          go_simp <;> with_reducible rfl
        try simp only [Act.put, zq1, zq2, zq3, zq4, zq5, zq6]
        refine wpAnyL_take (i := 2) (v := ?_) (fuel := 7) rfl (by kernel_rfl) (by kernel_rfl) (by kernel_rfl) (by kernel_rfl) (fun _ _ _ h => h) (fun Ls w' => by rw [getD_set_ne true (by omega)]) (fun _ => HSF.out) (.inl ⟨by rfl, ?_⟩) ?_
        rotate_left 1
        · rintro w' ⟨Ls, hcl, h0, hS⟩
          clear hS hcl h0
          go_simp <;> with_reducible rfl
        try simp only [Act.put, zq1, zq2, zq3, zq4, zq5, zq6]
        refine wpAnyL_take (i := 3) (v := ?_) (fuel := 6) rfl (by kernel_rfl) (by kernel_rfl) (by kernel_rfl) (by kernel_rfl) (fun _ _ _ h => h) (fun Ls w' => by rw [getD_set_ne true (by omega)]) (fun _ => HSF.out) (.inl ⟨by rfl, ?_⟩) ?_
        rotate_left 1
        · rintro w' ⟨Ls, hcl, h0, hS⟩
          clear hS hcl h0
          go_simp <;> with_reducible rfl
        try simp only [Act.put, zq1, zq2, zq3, zq4, zq5, zq6]
        refine wpAnyL_take (i := 4) (v := ?_) (fuel := 5) rfl (by kernel_rfl) (by kernel_rfl) (by kernel_rfl) (by kernel_rfl) (fun _ _ _ h => h) (fun Ls w' => by rw [getD_set_ne true (by omega)]) (fun _ => HSF.out) (.inl ⟨by rfl, ?_⟩) ?_
        rotate_left 1
        · rintro w' ⟨Ls, hcl, h0, hS⟩
          clear hS hcl h0
          go_simp <;> with_reducible rfl
        try simp only [Act.put, zq1, zq2, zq3, zq4, zq5, zq6]
        refine wpAnyL_one (i := 5) (fuel := 4) (by kernel_rfl) rfl (fun K hK => ?_)
        go_simp
        go_at_call 70
        refine (H3.out _ b1).mono ?_
        intro e w3 hgv
        obtain ⟨vp, vn, vc, rfl, hr3, hb3⟩ := hgv.form
        have b2 := b1.trans (hb3.mono b1.size)
        have HR3 := Lib.hid (show RIn w3 w2.heap.size (.slice vp vn vc) rx.list from hr3.mono b1.size)
        clear hgv hr3
        have HSF2 := Lib.hid ((HC2.out.after b2).cell (j := 2) rfl)
        refine hK.out _ _ (fun h => HSF2.out) (fun _ => ?_)
        clear hK K
        try simp only [Act.put, zq1, zq2, zq3, zq4, zq5, zq6]
        refine wpAnyL_one (i := 6) (fuel := 3) (by kernel_rfl) rfl (fun K hK => ?_)
        go_simp
        obtain ⟨w4, hal⟩ : ∃ W, w3.alloc (.cells #[.bool rx.isList, .string ⟨rx.text.toArray⟩, .slice vp vn vc] 46) = W := ⟨_, rfl⟩
        have hb4 : Below w3.heap.size w3 w4 := by rw [← hal]; exact laid1 w3 _
        have b4 := b2.trans (hb4.mono b2.size)
        have HN4 := Lib.hid (show HasCells w4 w3.heap.size (itemCells [((rx, .slice vp vn vc) : Item × Value)]) 46 from by rw [← hal]; exact HasCells.new w3 _ _)
        have HSF4 := Lib.hid ((HC2.out.after b4).cell (j := 2) rfl)
        rw [hal]
        clear hal
        refine hK.out _ _ (fun h => HSF4.out) (fun _ => ?_)
        clear hK K
        try simp only [Act.put, zq1, zq2, zq3, zq4, zq5, zq6]
        refine wpAnyL_one (i := 7) (fuel := 2) (by kernel_rfl) rfl (fun K hK => ?_)
        refine step_appendI rfl _ _ rfl W.heap.size (.slice pv m cv) L rfl (HO2.out.after b4).1 ⟨w3.heap.size, 0, none⟩ 1 ((rx, .slice vp vn vc) : Item × Value) ⟨_, _, _, rfl⟩ rfl ?f0 ?f1 ?f2 ?_
        case f0 => exact fun j u hu => by rw [addr_add']; exact HN4.out.cell hu
        case f1 => rw [HM.out]; omega
        case f2 => have := b4.size; have := hws2; omega
        intro v5 w5 ho5 hg5 hv5
        have hr4 : RowI W.heap.size w5 v5 (L ++ [((rx, .slice vp vn vc) : Item × Value)]) := (HO2.out.after b4).snoc (HOF.out _ _ _ (HR3.out.below hb4) b4) ho5 hg5 hv5
        have hsz3 := b4.size
        have hlb3 := HLB.out
        have hs03 := HS0.out
        have hws3 := HWS.out
        have hb4 : Below w0.heap.size w0 w5 := (HB2.out.trans (b4.mono HB2.out.size)).grown hg5 (by have := HB2.out.size; omega) (fun g e => by have := HVB.out g e; omega)
        have hc4 : HasCells w5 w1.heap.size [.bool true, .string ⟨#[]⟩, .slice pv m cv] 46 := (HC2.out.after b4).kept (hg5.block w1.heap.size (by have := HC2.out.lt; omega) (fun e => by have := HVB.out _ e.symm; omega))
        have hz4 : HasCells w5 w.heap.size itemZ 46 := (HZ2.out.after b4).kept (hg5.block w.heap.size (by have := HZ2.out.lt; omega) (fun e => by have := HVB.out _ e.symm; omega))
        have hs4 : W.heap.size ≤ w5.heap.size := by have := hg5.size; omega
        obtain ⟨p4, k4, rfl⟩ := hr4.form
        obtain ⟨m4, hm4⟩ : ∃ m4, (L ++ [((rx, .slice vp vn vc) : Item × Value)]).length = m4 := ⟨_, rfl⟩
        rw [hm4] at hr4 ⊢
        have c4 := hc4.cell (j := 2) rfl
        have f4 := hc4.frozen 2
        have HM4 := Lib.hid hm4
        clear ho5 hg5 hv5 hm4 hsz3 hlb3 hs03 hws3
        have HR4 := Lib.hid hr4
        have HB4 := Lib.hid hb4
        have HZ4 := Lib.hid hz4
        have HC4 := Lib.hid hc4
        have HS4 := Lib.hid hs4
        clear hr4 hb4 hz4 hc4 hs4
        have HSF5 := Lib.hid c4
        refine hK.out _ _ (fun h => HSF5.out) (fun _ => ?_)
        clear hK K
        try simp only [Act.put, zq1, zq2, zq3, zq4, zq5, zq6]
        refine wpAnyL_take (i := 8) (v := ?_) (fuel := 1) rfl (by kernel_rfl) (by kernel_rfl) (by kernel_rfl) (by kernel_rfl) (fun _ _ _ h => h) (fun Ls w' => by rw [getD_set_ne true (by omega)]) (fun _ => HSF5.out) (.inl ⟨by rfl, ?_⟩) ?_
        rotate_left 1
        · rintro w' ⟨Ls, hcl, h0, hS⟩
          clear hS hcl h0
          go_simp <;> with_reducible rfl
        try simp only [Act.put, zq1, zq2, zq3, zq4, zq5, zq6]
        refine wpAnyL_one (i := 9) (fuel := 0) (by kernel_rfl) rfl (fun K hK => ?_)
        go_simp
        refine hK.out _ _ (fun h => (by cases h)) (fun _ => ?_)
        clear hK K
        try simp only [Act.put, zq1, zq2, zq3, zq4, zq5, zq6]
        refine wpAnyL_done (by kernel_rfl) ?_ 0
        go_wp2_with fail
        have hlb5 := HLB.out
        have hs05 := HS0.out
        refine ⟨⟨m + 1, .slice p4 m4 k4, L ++ [((rx, .slice vp vn vc) : Item × Value)], by omega, rfl, HC4.out.set 2 _, HZ4.out.setOther (by omega) _, ?_, ?_, HB4.out.setCell (p := ⟨w1.heap.size, 2, none⟩) hlb5.1 _, ?_⟩, ?_⟩
        · exact HR4.out.setLow (by omega) _
        · show (L ++ [((rx, .slice vp vn vc) : Item × Value)]).map Prod.fst = (List.range (m + 1)).map (childP f ps d)
          rw [List.map_append, HLM.out, range_succ_map, HCH.out]
          rfl
        · show W.heap.size ≤ _
          rw [World.size_setCell]; exact HS4.out
        · show 16 - ((m : Int) + 1).toNat < 16 - ((m : Int)).toNat
          omega
    · obtain rfl : m = 16 := by omega
      have HVB := Lib.hid (fun g (e : (Value.slice pv 16 cv).ownBlock = some g) => (HO.out.1.lt' g e).1)
      go_wp2_with fail
      have b1 : Below wr.heap.size wr wr.drew := (Below.refl _ _).drew
      have HSF := Lib.hid ((HC.out.after b1).cell (j := 2) rfl)
      refine wp_region_L (fun Ls w' => Ls.getD 9 true = false → w'.cell? ⟨w1.heap.size, 2, none⟩ = some (.slice pv 16 cv)) (by kernel_rfl) ?_
      refine wpAnyL_take (i := 0) (v := ?_) (fuel := 9) rfl (by kernel_rfl) (by kernel_rfl) (by kernel_rfl) (by kernel_rfl) (fun _ _ _ h => h) (fun Ls w' => by rw [getD_set_ne true (by omega)]) (fun _ => HSF.out) (.inl ⟨by rfl, ?_⟩) ?_
      rotate_left 1
      · rintro w' ⟨Ls, hcl, h0, hS⟩
        clear hS hcl h0
        go_simp <;> with_reducible rfl
      try simp only [Act.put, zq1, zq2, zq4, zq5, zq6]
      refine wpAnyL_take (i := 1) (v := ?_) (fuel := 8) rfl (by kernel_rfl) (by kernel_rfl) (by kernel_rfl) (by kernel_rfl) (fun _ _ _ h => h) (fun Ls w' => by rw [getD_set_ne true (by omega)]) (fun _ => HSF.out) (.inl ⟨by rfl, ?_⟩) ?_
      rotate_left 1
      · rintro w' ⟨Ls, hcl, h0, hS⟩
        have hSw := hS (closedB_before hcl (i := 1) (by kernel_rfl) h0)
        clear hS hcl h0
        go_simp <;> with_reducible rfl
      try simp only [Act.put, zq1, zq2, zq3, zq4, zq5, zq6]
      refine wpAnyL_take (i := 2) (v := ?_) (fuel := 7) rfl (by kernel_rfl) (by kernel_rfl) (by kernel_rfl) (by kernel_rfl) (fun _ _ _ h => h) (fun Ls w' => by rw [getD_set_ne true (by omega)]) (fun _ => HSF.out) (.inl ⟨by rfl, ?_⟩) ?_
      rotate_left 1
      · rintro w' ⟨Ls, hcl, h0, hS⟩
        clear hS hcl h0
        go_simp <;> with_reducible rfl
      try simp only [Act.put, zq1, zq2, zq3, zq4, zq5, zq6]
      refine wpAnyL_take (i := 3) (v := ?_) (fuel := 6) rfl (by kernel_rfl) (by kernel_rfl) (by kernel_rfl) (by kernel_rfl) (fun _ _ _ h => h) (fun Ls w' => by rw [getD_set_ne true (by omega)]) (fun _ => HSF.out) (.inl ⟨by rfl, ?_⟩) ?_
      rotate_left 1
      · rintro w' ⟨Ls, hcl, h0, hS⟩
        clear hS hcl h0
        go_simp <;> with_reducible rfl
      try simp only [Act.put, zq1, zq2, zq3, zq4, zq5, zq6]
      refine wpAnyL_one (i := 4) (fuel := 5) (by kernel_rfl) rfl (fun K hK => ?_)
      go_simp
      go_at_call 72
      refine (HEN.out _ (HB.out.trans (b1.mono HB.out.size))).mono ?_
      rintro e w3 ⟨rfl, hb3⟩
      have b2 := b1.trans (hb3.mono b1.size)
      have HSF2 := Lib.hid ((HC.out.after b2).cell (j := 2) rfl)
      refine hK.out _ _ (fun h => HSF2.out) (fun _ => ?_)
      clear hK K
      try simp only [Act.put, zq1, zq2, zq3, zq4, zq5, zq6]
      refine wpAnyL_take (i := 5) (v := ?_) (fuel := 4) rfl (by kernel_rfl) (by kernel_rfl) (by kernel_rfl) (by kernel_rfl) (fun _ _ _ h => h) (fun Ls w' => by rw [getD_set_ne true (by omega)]) (fun _ => HSF2.out) (.inl ⟨by rfl, ?_⟩) ?_
      rotate_left 1
      · rintro w' ⟨Ls, hcl, h0, hS⟩
        clear hS hcl h0
        go_simp <;> with_reducible rfl
      try simp only [Act.put, zq1, zq2, zq3, zq4, zq5, zq6]
      refine wpAnyL_one (i := 6) (fuel := 3) (by kernel_rfl) rfl (fun K hK => ?_)
      go_simp
      obtain ⟨w4, hal⟩ : ∃ W, w3.alloc (.cells #[.bool false, .string ⟨en.toArray⟩, .slice none 0 0] 46) = W := ⟨_, rfl⟩
      have hb4 : Below w3.heap.size w3 w4 := by rw [← hal]; exact laid1 w3 _
      have b4 := b2.trans (hb4.mono b2.size)
      have HN4 := Lib.hid (show HasCells w4 w3.heap.size (itemCells [((txtI en, .slice none 0 0) : Item × Value)]) 46 from by rw [← hal]; exact HasCells.new w3 _ _)
      have HSF4 := Lib.hid ((HC.out.after b4).cell (j := 2) rfl)
      rw [hal]
      clear hal
      refine hK.out _ _ (fun h => HSF4.out) (fun _ => ?_)
      clear hK K
      try simp only [Act.put, zq1, zq2, zq3, zq4, zq5, zq6]
      refine wpAnyL_one (i := 7) (fuel := 2) (by kernel_rfl) rfl (fun K hK => ?_)
      refine step_appendI rfl _ _ rfl W.heap.size (.slice pv 16 cv) L rfl (HO.out.after b4).1 ⟨w3.heap.size, 0, none⟩ 1 ((txtI en, .slice none 0 0) : Item × Value) ⟨_, _, _, rfl⟩ rfl ?f0 ?f1 ?f2 ?_
      case f0 => exact fun j u hu => by rw [addr_add']; exact HN4.out.cell hu
      case f1 => rw [HM.out]; omega
      case f2 => have := b4.size; have := HWS.out; omega
      intro v5 w5 ho5 hg5 hv5
      have hr4 : RowI W.heap.size w5 v5 (L ++ [((txtI en, .slice none 0 0) : Item × Value)]) := (HO.out.after b4).snoc (ReadsIn.nil _ _) ho5 hg5 hv5
      have hsz3 := b4.size
      have hlb3 := HLB.out
      have hs03 := HS0.out
      have hws3 := HWS.out
      have hb4 : Below w0.heap.size w0 w5 := (HB.out.trans (b4.mono HB.out.size)).grown hg5 (by have := HB.out.size; omega) (fun g e => by have := HVB.out g e; omega)
      have hc4 : HasCells w5 w1.heap.size [.bool true, .string ⟨#[]⟩, .slice pv 16 cv] 46 := (HC.out.after b4).kept (hg5.block w1.heap.size (by have := HC.out.lt; omega) (fun e => by have := HVB.out _ e.symm; omega))
      have hz4 : HasCells w5 w.heap.size itemZ 46 := (HZ.out.after b4).kept (hg5.block w.heap.size (by have := HZ.out.lt; omega) (fun e => by have := HVB.out _ e.symm; omega))
      have hs4 : W.heap.size ≤ w5.heap.size := by have := hg5.size; omega
      obtain ⟨p4, k4, rfl⟩ := hr4.form
      obtain ⟨m4, hm4⟩ : ∃ m4, (L ++ [((txtI en, .slice none 0 0) : Item × Value)]).length = m4 := ⟨_, rfl⟩
      rw [hm4] at hr4 ⊢
      have c4 := hc4.cell (j := 2) rfl
      have f4 := hc4.frozen 2
      have HM4 := Lib.hid hm4
      clear ho5 hg5 hv5 hm4 hsz3 hlb3 hs03 hws3
      have HR4 := Lib.hid hr4
      have HB4 := Lib.hid hb4
      have HZ4 := Lib.hid hz4
      have HC4 := Lib.hid hc4
      have HS4 := Lib.hid hs4
      clear hr4 hb4 hz4 hc4 hs4
      have HSF5 := Lib.hid c4
      refine hK.out _ _ (fun h => HSF5.out) (fun _ => ?_)
      clear hK K
      try simp only [Act.put, zq1, zq2, zq3, zq4, zq5, zq6]
      refine wpAnyL_take (i := 8) (v := ?_) (fuel := 1) rfl (by kernel_rfl) (by kernel_rfl) (by kernel_rfl) (by kernel_rfl) (fun _ _ _ h => h) (fun Ls w' => by rw [getD_set_ne true (by omega)]) (fun _ => HSF5.out) (.inl ⟨by rfl, ?_⟩) ?_
      rotate_left 1
      · rintro w' ⟨Ls, hcl, h0, hS⟩
        clear hS hcl h0
        go_simp <;> with_reducible rfl
      try simp only [Act.put, zq1, zq2, zq3, zq4, zq5, zq6]
      refine wpAnyL_one (i := 9) (fuel := 0) (by kernel_rfl) rfl (fun K hK => ?_)
      go_simp
      refine hK.out _ _ (fun h => (by cases h)) (fun _ => ?_)
      clear hK K
      try simp only [Act.put, zq1, zq2, zq3, zq4, zq5, zq6]
      refine wpAnyL_done (by kernel_rfl) ?_ 0
      have hlb5 := HLB.out
      have hs05 := HS0.out
      obtain ⟨w6, hw6⟩ : ∃ W', w5.setCell ⟨w1.heap.size, 2, none⟩ (.slice p4 m4 k4) = W' := ⟨_, rfl⟩
      have hc6 : HasCells w6 w1.heap.size [.bool true, .string ⟨#[]⟩, .slice p4 m4 k4] 46 := by rw [← hw6]; exact HC4.out.set 2 _
      have hz6 : HasCells w6 w.heap.size itemZ 46 := by rw [← hw6]; exact HZ4.out.setOther (by omega) _
      have hr6 : RowI W.heap.size w6 (.slice p4 m4 k4) (L ++ [((txtI en, .slice none 0 0) : Item × Value)]) := by rw [← hw6]; exact HR4.out.setLow (by omega) _
      have hb6 : Below w0.heap.size w0 w6 := by rw [← hw6]; exact HB4.out.setCell (p := ⟨w1.heap.size, 2, none⟩) hlb5.1 _
      have x0 := hc6.cell (j := 0) rfl
      have x1 := hc6.cell (j := 1) rfl
      have x2 := hc6.cell (j := 2) rfl
      have e0 := hz6.cell (j := 0) rfl
      have e1 := hz6.cell (j := 1) rfl
      have e2 := hz6.cell (j := 2) rfl
      have f0 := hz6.frozen 0
      have f1 := hz6.frozen 1
      have f2 := hz6.frozen 2
      have HZ6 := Lib.hid hz6
      have HR6 := Lib.hid hr6
      have HB6 := Lib.hid (HLO.out.trans (hb6.mono HLO.out.size))
      rw [hw6]
      clear hw6 hc6 hz6 hr6 hb6 c4 f4 hlb5 hs05
      go_wp2_with fail
      have hf := ((HZ6.out.set 0 (.bool true)).set 1 (.string ⟨#[]⟩)).set 2 (.slice p4 m4 k4)
      refine bodyPost_ret (v := .agg #[.bool true, .string ⟨#[]⟩, .slice p4 m4 k4]) (results_cells rfl _ _ w.heap.size [.bool true, .string ⟨#[]⟩, .slice p4 m4 k4] _ (by rfl) hf.range Tryz.underlying46 rfl infoItemS) rfl ?_
      refine ⟨_, rfl, ?_, three_below HB6.out _ _ _⟩
      have hlst : (brI ((List.range 16).map (childP f ps d)) en).list = (L ++ [((txtI en, .slice none 0 0) : Item × Value)]).map Prod.fst := by
        rw [List.map_append, HLM.out]
        rfl
      show RIn _ _ _ (brI ((List.range 16).map (childP f ps d)) en).list
      rw [hlst]
      have hlb5 := HLB.out
      have hs05 := HS0.out
      exact (three_reads (HR6.out.rin.mono (show w.heap.size + 1 ≤ W.heap.size by omega)) _ _ _).mono (by omega)
theorem nodeRef_all (f : Nat) : NodeC f := by
  induction f with
  | zero => intro ps d v w _ hval _ _ hfd; have := valid_le hval; omega
  | succ f ih =>
    intro ps d v w hv hval hfa hlen hfd
    match ps, hv, hval, hfa, hlen with
    | [], _, hval, _, _ => exact absurd rfl hval.1
    | [q], hv, hval, _, _ => exact nodeRef_one q f d v w hv hval
    | q :: q2 :: r, hv, hval, hfa, hlen =>
      by_cases hn : 0 < alikeP (q :: q2 :: r) d
      · exact nodeRef_ext f (referenceRef_of f ih) q q2 r d v w hv hval hfa hlen hfd hn
      · exact nodeRef_br f (referenceRef_of f ih) q q2 r d v w hv hval hfa hlen hfd hn
theorem bytesRef_all (f : Nat) : BytesC f := bytesRef_of f (nodeRef_all f)
end Go.Proofs.YthicdhnjincflaaGreatDoor
/- Contracts of the reference's trie: told, way. -/
namespace Go.Proofs.YthicdhnjincflaaGreatDoor
open Go.RowKit Go.Shelf Go.Lib
attribute [local go_sem] Oper.semAt_some
def bt (l : List UInt8) : ByteArray := ⟨l.toArray⟩
def GrowsS (base : Nat) (w : World) (v : Value) (out : List ByteArray) (e : Ending) (w' : World) : Prop :=
  ∃ p c, e = .returned (.slice p out.length c) ∧ OwnS base w' (.slice p out.length c) out ∧ Below base w w' ∧ w.heap.size ≤ w'.heap.size ∧ (∀ k, k < w.heap.size → v.ownBlock ≠ some k → w'.heap[k]? = w.heap[k]?) ∧
    ((Value.slice p out.length c).ownBlock = v.ownBlock ∨ ∀ k, (Value.slice p out.length c).ownBlock = some k → w.heap.size ≤ k)
theorem GrowsS.same {base : Nat} {w w' : World} {p : Option Addr} {c : Nat} {out : List ByteArray} (h : OwnS base w (.slice p out.length c) out) (hb : Below w.heap.size w w') (hbase : base ≤ w.heap.size) : GrowsS base w (.slice p out.length c) out (.returned (.slice p out.length c)) w' :=
  ⟨p, c, rfl, h.after hb, hb.mono hbase, hb.size, fun k hk _ => hb.block k hk, .inl rfl⟩
theorem GrowsS.trans {base : Nat} {w w1 wk w' : World} {v v1 : Value} {out1 out2 : List ByteArray} {e : Ending} (h1 : GrowsS base w v out1 (.returned v1) w1) (hb : Below w1.heap.size w1 wk) (hbase : base ≤ w.heap.size) (h2 : GrowsS base wk v1 out2 e w') : GrowsS base w v out2 e w' := by
  obtain ⟨p1, c1, e1, _, b1, s1, k1, o1⟩ := h1
  cases e1
  obtain ⟨p2, c2, e2, w2, b2, s2, k2, o2⟩ := h2
  have hs := hb.size
  refine ⟨p2, c2, e2, w2, (b1.trans (hb.mono (by omega))).trans b2, by omega, fun k hk hne => ?_, ?_⟩
  · rw [k2 k (by omega) (fun e => ?_), hb.block k (by omega), k1 k hk hne]
    rcases o1 with o1 | o1
    · exact hne (o1 ▸ e)
    · have := o1 k e; omega
  · rcases o2 with o2 | o2
    · rw [o2]
      rcases o1 with o1 | o1
      · exact .inl o1
      · exact .inr o1
    · exact .inr fun k e => by have := o2 k e; omega
def ApartV (v u : Value) : Prop := ∀ k, v.ownBlock = some k → u.ownBlock ≠ some k
theorem Pairs.keep {w w' : World} {v u : Value} {ps : List PairD} (h : Pairs w v ps) (ha : ApartV v u) (hs : w.heap.size ≤ w'.heap.size) (hk : ∀ k, k < w.heap.size → u.ownBlock ≠ some k → w'.heap[k]? = w.heap[k]?) : Pairs w' v ps := by
  obtain ⟨p, c, rfl, hc, h⟩ := h
  refine ⟨p, c, rfl, hc, ?_⟩
  rcases h with h | ⟨bk, o, rfl, h3, h4⟩
  · exact .inl h
  · have hb := hk bk h3 (ha bk rfl)
    exact .inr ⟨bk, o, rfl, Nat.lt_of_lt_of_le h3 hs, fun j q hq => ⟨(World.cell?_of_block (a := ⟨bk, o + j * 2, none⟩) hb).trans (h4 j q hq).1, (World.cell?_of_block (a := ⟨bk, o + j * 2 + 1, none⟩) hb).trans (h4 j q hq).2⟩⟩
theorem Pairs.blk {w : World} {p : Option Addr} {n c : Nat} {ps : List PairD} (h : Pairs w (.slice p n c) ps) (hne : ps ≠ []) : ∀ k, (Value.slice p n c).ownBlock = some k → k < w.heap.size := by
  obtain ⟨-, bk, o, rfl, h1, _⟩ := h.at hne
  intro k e
  cases e
  exact h1
theorem Pairs.first {w : World} {bk ob n c : Nat} {q : PairD} {r : List PairD} (h : Pairs w (.slice (some ⟨bk, ob, none⟩) n c) (q :: r)) : w.cell? ⟨bk, ob, none⟩ = some (.string ⟨q.1.toArray⟩) ∧ bk < w.heap.size := by
  obtain ⟨-, bk', ob', he, h1, h2⟩ := h.at (by simp)
  cases he
  have := (h2 0 q rfl).1
  rw [Nat.zero_mul, Nat.add_zero] at this
  exact ⟨this, h1⟩
theorem ApartV.next {v u u1 : Value} {n : Nat} (h : ApartV v u) (hb : ∀ k, v.ownBlock = some k → k < n) (hu : u1.ownBlock = u.ownBlock ∨ ∀ k, u1.ownBlock = some k → n ≤ k) : ApartV v u1 := fun k e e2 => by
  rcases hu with hu | hu
  · exact h k e (hu ▸ e2)
  · have := hu k e2; have := hb k e; omega
theorem GrowsS.here {base : Nat} {w w1 wk : World} {v : Value} {p1 : Option Addr} {c1 : Nat} {out : List ByteArray} (h1 : GrowsS base w v out (.returned (.slice p1 out.length c1)) w1) (hb : Below w1.heap.size w1 wk) (hbase : base ≤ w.heap.size) : GrowsS base w v out (.returned (.slice p1 out.length c1)) wk := by
  have h2 := h1
  obtain ⟨p, c, e, ho, _, hs, _⟩ := h2
  cases e
  exact h1.trans hb hbase (GrowsS.same (ho.after hb) (Below.refl _ _) (by have := hb.size; omega))
set_option maxRecDepth 100000 in
set_option maxHeartbeats 3200000 in
theorem toldRef_any (f : Nat) (ps : List PairD) (d : Nat) (v : Value) (p : Option Addr) (c : Nat) (out : List ByteArray) (base : Nat) (w : World) (hv : Pairs w v ps) (hval : Valid ps d) (hfa : Fair ps) (hlen : ps.length ≤ 1000) (hfd : 129 ≤ d + f) (ho : OwnS base w (.slice p out.length c) out) (hbase : base ≤ w.heap.size) (hol : out.length ≤ 1000000) :
    Calls Tryz.prog 73 #[.slice p out.length c, v, .int .i64 d] w (GrowsS base w (.slice p out.length c) (out ++ (toldP keccakL f ps d).map bt)) := by
  have H1 := Lib.hid (bytesRef_all f ps d v w hv hval hfa hlen hfd)
  have hd := valid_le hval
  have htl : toldP keccakL f ps d = if d = 0 ∨ 32 ≤ (bytesP keccakL f ps d).length then [bytesP keccakL f ps d] else [] := rfl
  obtain ⟨b, hb⟩ : ∃ b, bytesP keccakL f ps d = b := ⟨_, rfl⟩
  rw [hb] at H1 htl
  rw [htl]
  have hsz : (⟨b.toArray⟩ : ByteArray).size = b.length := rfl
  obtain ⟨bl, hbl⟩ : ∃ n, b.length = n := ⟨_, rfl⟩
  rw [hbl] at hsz ⊢
  have HO := Lib.hid ho
  obtain ⟨n, hn⟩ : ∃ n, out.length = n := ⟨_, rfl⟩
  have HN := Lib.hid hn
  clear hv hval hfa hlen hfd ho htl hb hbl
  have hcase : (d = 0 ∨ 32 ≤ bl) ∨ ¬ (d = 0 ∨ 32 ≤ bl) := Classical.em _
  rcases hcase with hc | hc
  · rw [if_pos hc]
    have key : Calls Tryz.prog 73 #[.slice p n c, v, .int .i64 d] w (GrowsS base w (.slice p n c) (out ++ [bt b])) := by
      have HO2 := Lib.hid (show OwnS base w (.slice p n c) out from hn ▸ HO.out)
      have hc2 : d = 0 ∨ (¬ (d : Int) = 0 ∧ ((d : Int) == 0) = false ∧ (32 : Int) ≤ bl) := by
        by_cases h0 : d = 0
        · exact .inl h0
        · exact .inr ⟨by omega, by simp; omega, by omega⟩
      clear hn hc HO
      rcases hc2 with rfl | ⟨h1, h2, h3⟩
      all_goals
        go_enter Tryz.func73, Tryz.ntmps73
        go_wp2_with fail
        refine H1.out.mono ?_
        rintro e w1 ⟨rfl, hb1⟩
        have HO1 := Lib.hid (HO2.out.after hb1)
        have HB1 := Lib.hid hb1
        clear hb1
        go_wp2_with (at_builtin; refine wpList_appendTs rfl _ _ 29 rfl base Tryz.underlying29 infoStr _ out rfl (HO1.out.after (laid1 _ _)) ⟨w1.heap.size, 0, none⟩ 1 1 [bt b] rfl rfl ?c0 ?c1 ?c2 ?_)
        case c0 => exact fun j u hu => one_at hu (by rintro rfl rfl; rw [addr_add']; exact cells_at w1 [.string ⟨b.toArray⟩] _ 0 _ rfl)
        case c1 => omega
        case c2 => have := HB1.out.size; simp; omega
        intro v3 w3 ho3 hg3 hp3
        have hfin : GrowsS base w (.slice p n c) (out ++ [bt b]) (.returned v3) w3 := by
          obtain ⟨p3, c3, rfl⟩ := ho3.form
          have hs1 := HB1.out.size
          have hba := laid1 w1 (.cells #[.string ⟨b.toArray⟩] 9)
          have hsa : (w1.alloc (.cells #[.string ⟨b.toArray⟩] 9)).heap.size = w1.heap.size + 1 := by simp
          have hg := hg3.size
          refine ⟨p3, c3, rfl, ho3, ((HB1.out.mono hbase).trans (hba.mono (by omega))).grown hg3 (by omega) (fun r e => (HO2.out.lt r e).1), by omega, fun k hk hne => ?_, ?_⟩
          · rw [hg3.block k (by omega) (fun e => hne e.symm), hba.block k (by omega), HB1.out.block k hk]
          · rcases hp3 with hp3 | hp3
            · exact .inl hp3
            · exact .inr fun k e => by have := hp3 k e; omega
        have HF := Lib.hid hfin
        clear hfin ho3 hg3 hp3
        go_wp2
        go_ret
        exact HF.out
    rw [hn]
    exact key
  · rw [if_neg hc]
    have g1 : ¬ ((d : Int) = 0) := by omega
    have g2 : ((d : Int) == 0) = false := by simp; omega
    have g3 : ¬ ((32 : Int) ≤ bl) := by omega
    have g4 : decide ((32 : Int) ≤ bl) = false := decide_eq_false g3
    rw [List.map_nil, List.append_nil]
    clear hn hc
    go_enter Tryz.func73, Tryz.ntmps73
    go_wp2_with fail
    refine H1.out.mono ?_
    rintro e w1 ⟨rfl, hb1⟩
    have HB1 := Lib.hid hb1
    clear hb1
    go_wp2
    go_ret
    exact GrowsS.same HO.out HB1.out hbase
theorem havingRef_b (ps : List PairD) (d : Nat) (h : UInt8) {m : List PairD} (hm : havingP ps d h = m) (v : Value) (w : World) (hv : Pairs w v ps) (hlen : ps.length ≤ 1000) (hkl : ∀ q ∈ ps, q.1.length ≤ 64) (hd : d ≤ 100000) :
    Calls Tryz.prog 71 #[v, .int .i64 d, .int .u8 h.toNat] w fun e w' => ∃ p c, e = .returned (.slice p m.length c) ∧ OwnP w.heap.size w' (.slice p m.length c) m ∧ Below w.heap.size w w' := by
  subst hm
  exact havingRef_any ps d h v w hv hlen hkl hd
set_option maxRecDepth 100000 in
set_option maxHeartbeats 12800000 in
theorem wayRef_any (f : Nat) : ∀ (ps : List PairD) (d : Nat) (path : List UInt8) (v : Value) (p : Option Addr) (c : Nat) (out : List ByteArray) (base : Nat) (w : World), Pairs w v ps → Valid ps d → Fair ps → ps.length ≤ 1000 → 129 ≤ d + f → path.length ≤ 8589934592 →
    OwnS base w (.slice p out.length c) out → base ≤ w.heap.size → out.length + f ≤ 1000000 → ApartV v (.slice p out.length c) →
    Calls Tryz.prog 39 #[.slice p out.length c, v, .int .i64 d, .string ⟨path.toArray⟩] w (GrowsS base w (.slice p out.length c) (out ++ (wayP keccakL f ps d path).map bt)) := by
  induction f with
  | zero => intro ps d path v p c out base w _ hval _ _ hfd; have := valid_le hval; omega
  | succ f ih =>
    intro ps d path v p c out base w hv hval hfa hlen hfd hpl ho hbase hol hap
    have H0 := Lib.hid (toldRef_any (f + 1) ps d v p c out base w hv hval hfa hlen hfd ho hbase (by omega))
    have hto := told_one (K := keccakL) (f + 1) ps d
    rw [way_tail, List.map_append, ← List.append_assoc]
    obtain ⟨out1, hout⟩ : ∃ o, out ++ (toldP keccakL (f + 1) ps d).map bt = o := ⟨_, rfl⟩
    have hol1 : out1.length ≤ out.length + 1 := by rw [← hout, List.length_append, List.length_map]; omega
    rw [hout] at H0 ⊢
    have hd := valid_le hval
    have HV := Lib.hid hv
    have HAP := Lib.hid hap
    obtain ⟨vp, vc, rfl⟩ := hv.form
    have HIH := Lib.hid ih
    clear ih hto hout hv hap ho
    rcases ps with _ | ⟨q, _ | ⟨q2, r⟩⟩
    · exact absurd rfl hval.1
    · show Calls _ _ _ _ (GrowsS base w _ (out1 ++ [].map bt))
      rw [List.map_nil, List.append_nil]
      clear hval hfa HV HAP
      have hlen1 : ([q] : List PairD).length = 1 := rfl
      rw [hlen1] at H0 ⊢
      go_enter Tryz.func39, Tryz.ntmps39
      go_wp2_with fail
      refine H0.out.mono ?_
      intro e w1 hg
      obtain ⟨p1, c1, rfl, -⟩ := id hg
      have HG := Lib.hid hg
      clear hg
      go_wp2
      go_ret
      exact HG.out
    · obtain ⟨-, bk, ob, rfl, -, -⟩ := HV.out.at (by simp)
      have hq := hval.2 q List.mem_cons_self
      have hql := pth_len hq
      have hal := alike_len (d := d) (x := q) (ps := q :: q2 :: r) List.mem_cons_self
      have hve := valid_ext hval
      have hkl : ∀ x ∈ q :: q2 :: r, x.1.length ≤ 64 := fun x hx => pth_len (hval.2 x hx)
      obtain ⟨ln, hln⟩ : ∃ n, (q :: q2 :: r).length = n := ⟨_, rfl⟩
      have hl2 : 2 ≤ ln := by rw [← hln]; simp
      rw [hln] at H0 HV HAP ⊢
      have H1 := Lib.hid (fun V W (hb : Pairs W V (q :: q2 :: r)) => alikeRef_any q (q2 :: r) d V W hb hval hlen)
      have htail : wayTail keccakL f (q :: q2 :: r) d path = if 0 < alikeP (q :: q2 :: r) d then
        (if path.length < d + alikeP (q :: q2 :: r) d ∨ (path.drop d).take (alikeP (q :: q2 :: r) d) ≠ ((pth q).drop d).take (alikeP (q :: q2 :: r) d) then [] else wayP keccakL f (q :: q2 :: r) (d + alikeP (q :: q2 :: r) d) path)
        else match path[d]? with
        | none => []
        | some h => match havingP (q :: q2 :: r) d h with
          | [] => []
          | x :: m => wayP keccakL f (x :: m) (d + 1) path := rfl
      rw [htail]
      obtain ⟨n, hne⟩ : ∃ n, alikeP (q :: q2 :: r) d = n := ⟨_, rfl⟩
      rw [hne] at hal H1 hve ⊢
      have i5 : ((ln : Int) == 1) = false := by simp; omega
      have i6 : ¬ ((ln : Int) = 1) := by omega
      have hps : (⟨path.toArray⟩ : ByteArray).size = path.length := rfl
      obtain ⟨pl, hpll⟩ : ∃ n, path.length = n := ⟨_, rfl⟩
      rw [hpll] at hps hpl
      have HPL := Lib.hid hpll
      by_cases hn : 0 < n
      · rw [if_pos hn]
        obtain ⟨P0, hP0⟩ : ∃ P, pth q = P := ⟨_, rfl⟩
        rw [hP0] at hq hal ⊢
        have H2 := Lib.hid (fun W => ofRef_l (l := q.1) (p := P0) hP0 (by omega) W)
        obtain ⟨D0, hD0⟩ : ∃ D, (P0.drop d).take n = D := ⟨_, rfl⟩
        obtain ⟨E0, hE0⟩ : ∃ D, (path.drop d).take n = D := ⟨_, rfl⟩
        obtain ⟨dn, hdn⟩ : ∃ m, d + n = m := ⟨_, rfl⟩
        have HX := Lib.hid (show (⟨P0.toArray⟩ : ByteArray).extract d dn = ⟨D0.toArray⟩ from by rw [← hD0, ← hdn]; exact cut_both _ _ _)
        have HY := Lib.hid (show (⟨path.toArray⟩ : ByteArray).extract d dn = ⟨E0.toArray⟩ from by rw [← hE0, ← hdn]; exact cut_both _ _ _)
        have hs : (⟨P0.toArray⟩ : ByteArray).size = P0.length := rfl
        rw [hD0, hE0, hdn, hpll]
        rw [hdn] at hve
        obtain ⟨p0, hp0⟩ : ∃ n, P0.length = n := ⟨_, rfl⟩
        rw [hp0] at hq hs hal
        have e9 : (d : Int) + (n : Int) = (dn : Int) := by omega
        have i0 : (0 : Int) ≤ d := by omega
        have i1 : (d : Int) ≤ dn := by omega
        have i2 : (dn : Int) ≤ p0 := by omega
        have i3 : (0 : Int) < n := by omega
        have i4 : (dn : Int) ≤ 128 := by omega
        have hfd2 : 129 ≤ dn + f := by omega
        have HVE := Lib.hid (And.intro hve (And.intro hfa hlen))
        have hww : IntKind.i64.wrap (dn : Int) = (dn : Int) := by rw [IntKind.wrap_i64]; omega
        clear hval hve hfa hkl hln hne hP0 hD0 hE0 hdn hp0 hlen htail hpll hfd
        have hcase : pl < dn ∨ (¬ pl < dn ∧ (E0 ≠ D0 ∨ E0 = D0)) := by
          by_cases h : pl < dn
          · exact .inl h
          · exact .inr ⟨h, by by_cases h2 : E0 = D0; · exact .inr h2
                              · exact .inl h2⟩
        rcases hcase with hc | ⟨hc, hc2 | hc2⟩
        · rw [if_pos (.inl hc), List.map_nil, List.append_nil]
          have g1 : (pl : Int) < dn := by omega
          clear hc
          go_enter Tryz.func39, Tryz.ntmps39
          go_wp2_with fail
          refine H0.out.mono ?_
          intro e w1 hg
          obtain ⟨p1, c1, rfl, ho1, hb1, hs1, hk1, hq1⟩ := id hg
          have HG := Lib.hid hg
          have HO1 := Lib.hid ho1
          have HA1 := Lib.hid (HAP.out.next (HV.out.blk (by simp)) hq1)
          have hpv := HV.out.keep HAP.out hs1 hk1
          have HPV := Lib.hid hpv
          have HBS := Lib.hid (show base ≤ w1.heap.size from by omega)
          clear hg ho1 hb1 hk1 hq1 hpv hs1
          go_wp2_with fail
          refine (H1.out _ _ HPV.out).mono ?_
          rintro e w2 ⟨rfl, hb2⟩
          have HB2 := Lib.hid hb2
          have HP2 := Lib.hid (HPV.out.after hb2)
          clear hb2
          have c0 := HP2.out.first.1
          go_wp2_with fail
          refine (H2.out _).mono ?_
          rintro e w3 ⟨rfl, hb3⟩
          have HB3 := Lib.hid (HB2.out.trans (hb3.mono HB2.out.size))
          have HP3 := Lib.hid (HP2.out.after hb3)
          clear hb3 c0
          go_wp2_with (first | rw [HX.out] | rw [HY.out])
          go_ret
          exact HG.out.here HB3.out hbase
        · rw [if_pos (.inr hc2), List.map_nil, List.append_nil]
          have g1 : ¬ ((pl : Int) < dn) := by omega
          have g2 : decide ((pl : Int) < dn) = false := decide_eq_false g1
          have g3 : (dn : Int) ≤ pl := by omega
          have q1 : (E0 == D0) = false := beq_eq_false_iff_ne.2 hc2
          clear hc hc2
          go_enter Tryz.func39, Tryz.ntmps39
          go_wp2_with fail
          refine H0.out.mono ?_
          intro e w1 hg
          obtain ⟨p1, c1, rfl, ho1, hb1, hs1, hk1, hq1⟩ := id hg
          have HG := Lib.hid hg
          have HO1 := Lib.hid ho1
          have HA1 := Lib.hid (HAP.out.next (HV.out.blk (by simp)) hq1)
          have hpv := HV.out.keep HAP.out hs1 hk1
          have HPV := Lib.hid hpv
          have HBS := Lib.hid (show base ≤ w1.heap.size from by omega)
          clear hg ho1 hb1 hk1 hq1 hpv hs1
          go_wp2_with fail
          refine (H1.out _ _ HPV.out).mono ?_
          rintro e w2 ⟨rfl, hb2⟩
          have HB2 := Lib.hid hb2
          have HP2 := Lib.hid (HPV.out.after hb2)
          clear hb2
          have c0 := HP2.out.first.1
          go_wp2_with fail
          refine (H2.out _).mono ?_
          rintro e w3 ⟨rfl, hb3⟩
          have HB3 := Lib.hid (HB2.out.trans (hb3.mono HB2.out.size))
          have HP3 := Lib.hid (HP2.out.after hb3)
          clear hb3 c0
          go_wp2_with (first | rw [HX.out] | rw [HY.out])
          go_ret
          exact HG.out.here HB3.out hbase
        · rw [if_neg (by rintro (h | h); · exact hc h
                         · exact h hc2)]
          have g1 : ¬ ((pl : Int) < dn) := by omega
          have g2 : decide ((pl : Int) < dn) = false := decide_eq_false g1
          have g3 : (dn : Int) ≤ pl := by omega
          have q1 : (E0 == D0) = true := by rw [hc2]; exact beq_self_eq_true _
          obtain ⟨OT, hOT⟩ : ∃ L, out1 ++ (wayP keccakL f (q :: q2 :: r) dn path).map bt = L := ⟨_, rfl⟩
          rw [hOT]
          have HOT := Lib.hid hOT
          clear hc hc2 hOT
          go_enter Tryz.func39, Tryz.ntmps39
          go_wp2_with fail
          refine H0.out.mono ?_
          intro e w1 hg
          obtain ⟨p1, c1, rfl, ho1, hb1, hs1, hk1, hq1⟩ := id hg
          have HG := Lib.hid hg
          have HO1 := Lib.hid ho1
          have HA1 := Lib.hid (HAP.out.next (HV.out.blk (by simp)) hq1)
          have hpv := HV.out.keep HAP.out hs1 hk1
          have HPV := Lib.hid hpv
          have HBS := Lib.hid (show base ≤ w1.heap.size from by omega)
          clear hg ho1 hb1 hk1 hq1 hpv hs1
          go_wp2_with fail
          refine (H1.out _ _ HPV.out).mono ?_
          rintro e w2 ⟨rfl, hb2⟩
          have HB2 := Lib.hid hb2
          have HP2 := Lib.hid (HPV.out.after hb2)
          clear hb2
          have c0 := HP2.out.first.1
          go_wp2_with fail
          refine (H2.out _).mono ?_
          rintro e w3 ⟨rfl, hb3⟩
          have HB3 := Lib.hid (HB2.out.trans (hb3.mono HB2.out.size))
          have HP3 := Lib.hid (HP2.out.after hb3)
          clear hb3 c0
          go_wp2_with (first | rw [HX.out] | rw [HY.out])
          have hrec := HIH.out (q :: q2 :: r) dn path _ p1 c1 out1 base w3 HP3.out HVE.out.1 HVE.out.2.1 HVE.out.2.2 hfd2 (by rw [HPL.out]; omega) (HO1.out.after HB3.out) (by have := HBS.out; have := HB3.out.size; omega) (by omega) HA1.out
          rw [HOT.out] at hrec
          refine hrec.mono ?_
          intro e w4 hg
          obtain ⟨p4, c4, rfl, -⟩ := id hg
          have HG4 := Lib.hid (HG.out.trans HB3.out hbase hg)
          clear hg
          go_wp2
          go_ret
          exact HG4.out
      · rw [if_neg hn]
        obtain rfl : n = 0 := by omega
        have i0 : (0 : Int) ≤ d := by omega
        cases hpd : path[d]? with
        | none =>
          show Calls _ _ _ _ (GrowsS base w _ (out1 ++ [].map bt))
          rw [List.map_nil, List.append_nil]
          have hlt := List.getElem?_eq_none_iff.1 hpd
          rw [hpll] at hlt
          have g1 : (pl : Int) ≤ d := by omega
          clear hpd hlt hval hve hfa hkl hln hne hlen htail hpll hfd
          go_enter Tryz.func39, Tryz.ntmps39
          go_wp2_with fail
          refine H0.out.mono ?_
          intro e w1 hg
          obtain ⟨p1, c1, rfl, ho1, hb1, hs1, hk1, hq1⟩ := id hg
          have HG := Lib.hid hg
          have HO1 := Lib.hid ho1
          have HA1 := Lib.hid (HAP.out.next (HV.out.blk (by simp)) hq1)
          have hpv := HV.out.keep HAP.out hs1 hk1
          have HPV := Lib.hid hpv
          have HBS := Lib.hid (show base ≤ w1.heap.size from by omega)
          clear hg ho1 hb1 hk1 hq1 hpv hs1
          go_wp2_with fail
          refine (H1.out _ _ HPV.out).mono ?_
          rintro e w2 ⟨rfl, hb2⟩
          have HB2 := Lib.hid hb2
          have HP2 := Lib.hid (HPV.out.after hb2)
          clear hb2
          go_wp2
          go_ret
          exact HG.out.here HB2.out hbase
        | some h =>
          obtain ⟨hlt, hy⟩ := List.getElem?_eq_some_iff.1 hpd
          dsimp only
          obtain ⟨m, hm⟩ : ∃ m, havingP (q :: q2 :: r) d h = m := ⟨_, rfl⟩
          rw [hm]
          have H3 := Lib.hid (fun V W (hb : Pairs W V (q :: q2 :: r)) => havingRef_b (q :: q2 :: r) d h hm V W hb hlen hkl (by omega))
          have hml := having_len (q :: q2 :: r) d h
          rw [hm] at hml
          have HREC := Lib.hid (fun x xs (he : m = x :: xs) => And.intro (valid_having hval (hm.trans he)) (fair_having hfa (hm.trans he)))
          have HML := Lib.hid hml
          have g1 : ¬ ((pl : Int) ≤ d) := by omega
          have g2 : decide ((pl : Int) ≤ d) = false := decide_eq_false g1
          have g3 : (d : Int) < pl := by omega
          have hsz : d < (⟨path.toArray⟩ : ByteArray).size := by rw [hps]; omega
          obtain ⟨hb, hhb⟩ : ∃ b : Nat, h.toNat = b := ⟨_, rfl⟩
          have q1 : (((⟨path.toArray⟩ : ByteArray)[d]'hsz).toNat : Int) = (hb : Int) := by
            rw [← hhb, ← hy]
            rfl
          rw [hhb] at H3
          have hfd2 : 129 ≤ d + 1 + f := by omega
          have hLN := Lib.hid (show (q :: q2 :: r).length ≤ 1000 from hlen)
          clear hpd hlt hy hval hve hfa hkl hln hne hlen htail hpll hfd hm hml hhb
          cases m with
          | nil =>
            show Calls _ _ _ _ (GrowsS base w _ (out1 ++ [].map bt))
            rw [List.map_nil, List.append_nil]
            go_enter Tryz.func39, Tryz.ntmps39
            go_wp2_with fail
            refine H0.out.mono ?_
            intro e w1 hg
            obtain ⟨p1, c1, rfl, ho1, hb1, hs1, hk1, hq1⟩ := id hg
            have HG := Lib.hid hg
            have HO1 := Lib.hid ho1
            have HA1 := Lib.hid (HAP.out.next (HV.out.blk (by simp)) hq1)
            have hpv := HV.out.keep HAP.out hs1 hk1
            have HPV := Lib.hid hpv
            have HBS := Lib.hid (show base ≤ w1.heap.size from by omega)
            clear hg ho1 hb1 hk1 hq1 hpv hs1
            go_wp2_with fail
            refine (H1.out _ _ HPV.out).mono ?_
            rintro e w2 ⟨rfl, hb2⟩
            have HB2 := Lib.hid hb2
            have HP2 := Lib.hid (HPV.out.after hb2)
            clear hb2
            go_wp2_with (rw [q1])
            refine (H3.out _ _ HP2.out).mono ?_
            rintro e w3 ⟨mp, mc, rfl, hom, hb3⟩
            have HB3 := Lib.hid (HB2.out.trans (hb3.mono HB2.out.size))
            clear hb3 hom
            go_wp2
            go_ret
            exact HG.out.here HB3.out hbase
          | cons x xs =>
            obtain ⟨hvx, hfx⟩ := HREC.out x xs rfl
            have HVX := Lib.hid (And.intro hvx hfx)
            have hml0 : 0 < (x :: xs).length := by simp
            have hml1 : (x :: xs).length ≤ 1000 := Nat.le_trans HML.out hLN.out
            obtain ⟨ml, hmll⟩ : ∃ n, (x :: xs).length = n := ⟨_, rfl⟩
            rw [hmll] at H3 hml0 hml1
            have HMLL := Lib.hid hmll
            have g4 : ((ml : Int) == 0) = false := by simp; omega
            have g5 : ¬ ((ml : Int) = 0) := by omega
            obtain ⟨d1, hd1⟩ : ∃ n, d + 1 = n := ⟨_, rfl⟩
            have e9 : (d : Int) + 1 = (d1 : Int) := by omega
            have hww : IntKind.i64.wrap (d1 : Int) = (d1 : Int) := by rw [IntKind.wrap_i64]; omega
            rw [hd1] at hvx hfd2
            have HVX := Lib.hid (And.intro hvx hfx)
            show Calls _ _ _ _ (GrowsS base w _ (out1 ++ (wayP keccakL f (x :: xs) (d + 1) path).map bt))
            rw [hd1]
            obtain ⟨OT, hOT⟩ : ∃ L, out1 ++ (wayP keccakL f (x :: xs) d1 path).map bt = L := ⟨_, rfl⟩
            rw [hOT]
            have HOT := Lib.hid hOT
            clear hvx hfx hmll hd1 HREC HML hOT
            go_enter Tryz.func39, Tryz.ntmps39
            go_wp2_with fail
            refine H0.out.mono ?_
            intro e w1 hg
            obtain ⟨p1, c1, rfl, ho1, hb1, hs1, hk1, hq1⟩ := id hg
            have HG := Lib.hid hg
            have HO1 := Lib.hid ho1
            have HA1 := Lib.hid (HAP.out.next (HV.out.blk (by simp)) hq1)
            have hpv := HV.out.keep HAP.out hs1 hk1
            have HPV := Lib.hid hpv
            have HBS := Lib.hid (show base ≤ w1.heap.size from by omega)
            clear hg ho1 hb1 hk1 hq1 hpv hs1
            go_wp2_with fail
            refine (H1.out _ _ HPV.out).mono ?_
            rintro e w2 ⟨rfl, hb2⟩
            have HB2 := Lib.hid hb2
            have HP2 := Lib.hid (HPV.out.after hb2)
            clear hb2
            go_wp2_with (rw [q1])
            refine (H3.out _ _ HP2.out).mono ?_
            rintro e w3 ⟨mp, mc, rfl, hom, hb3⟩
            have HB3 := Lib.hid (HB2.out.trans (hb3.mono HB2.out.size))
            have HP3 := Lib.hid hom.pairs
            have HAX := Lib.hid (show ApartV (.slice mp ml mc) (.slice p1 out1.length c1) from fun k e e2 => by have h1 := (hom.lt k e).1; have h2 := (HO1.out.lt k e2).2; have := HB2.out.size; omega)
            clear hb3 hom
            go_wp2_with fail
            have hrec := HIH.out (x :: xs) d1 path (.slice mp ml mc) p1 c1 out1 base w3 HP3.out HVX.out.1 HVX.out.2 (by rw [HMLL.out]; omega) hfd2 (by rw [HPL.out]; omega) (HO1.out.after HB3.out) (by have := HBS.out; have := HB3.out.size; omega) (by omega) HAX.out
            rw [HOT.out] at hrec
            refine hrec.mono ?_
            intro e w4 hg
            obtain ⟨p4, c4, rfl, -⟩ := id hg
            have HG4 := Lib.hid (HG.out.trans HB3.out hbase hg)
            clear hg
            go_wp2
            go_ret
            exact HG4.out
end Go.Proofs.YthicdhnjincflaaGreatDoor
/- Contracts of the reference's trie: Right, Root, Prove. -/
namespace Go.Proofs.YthicdhnjincflaaGreatDoor
open Go.RowKit Go.Shelf Go.Lib
attribute [local go_sem] Oper.semAt_some
theorem right_iff (ps : List PairD) : ∀ seen : List PairD, rightFrom seen ps = true ↔ ∀ (i : Nat) q, ps[i]? = some q → okPair q = true ∧ (∀ x ∈ seen, x.1 ≠ q.1) ∧ ∀ (j : Nat) p, j < i → ps[j]? = some p → p.1 ≠ q.1 := by
  induction ps with
  | nil => intro seen; exact ⟨(fun _ i q h => by cases h), fun _ => rfl⟩
  | cons a r ih =>
    intro seen
    unfold rightFrom
    rw [Bool.and_eq_true, Bool.and_eq_true, ih (seen ++ [a])]
    have hs : (!(seen.any fun x => x.1 == a.1)) = true ↔ ∀ x ∈ seen, x.1 ≠ a.1 := by
      rw [Bool.not_eq_true', List.any_eq_false]
      constructor
      · intro h x hx e; exact h x hx (by rw [e]; simp)
      · intro h x hx e; exact h x hx (by simpa using e)
    rw [hs]
    constructor
    · rintro ⟨h1, h2, h3⟩ i q hq
      cases i with
      | zero => cases hq; exact ⟨h1, h2, fun j p hj => by omega⟩
      | succ i =>
        obtain ⟨a1, a2, a3⟩ := h3 i q hq
        refine ⟨a1, fun x hx => a2 x (List.mem_append_left _ hx), fun j p hj hp => ?_⟩
        cases j with
        | zero => cases hp; exact a2 a (List.mem_append_right _ List.mem_cons_self)
        | succ j => exact a3 j p (by omega) hp
    · intro h
      obtain ⟨a1, a2, _⟩ := h 0 a rfl
      refine ⟨a1, a2, fun i q hq => ?_⟩
      obtain ⟨b1, b2, b3⟩ := h (i + 1) q hq
      refine ⟨b1, fun x hx => ?_, fun j p hj hp => b3 (j + 1) p (by omega) hp⟩
      rcases List.mem_append.1 hx with hx | hx
      · exact b2 x hx
      · rw [List.mem_singleton] at hx
        rw [hx]
        exact b3 0 a (by omega) rfl
def OkTo (ps : List PairD) (k : Nat) : Prop := ∀ (i : Nat) q, i < k → ps[i]? = some q → okPair q = true ∧ ∀ (j : Nat) p, j < i → ps[j]? = some p → p.1 ≠ q.1
theorem right_ok {ps : List PairD} (h : OkTo ps ps.length) (hl : ps.length ≤ 200) : rightP ps = true := by
  unfold rightP
  rw [decide_eq_true hl, Bool.true_and, right_iff]
  intro i q hq
  obtain ⟨h1, h2⟩ := h i q (List.getElem?_eq_some_iff.1 hq).1 hq
  exact ⟨h1, (fun x hx => by cases hx), h2⟩
theorem right_bad {ps : List PairD} {i : Nat} {q : PairD} (hq : ps[i]? = some q) (h : okPair q = false) : rightP ps = false := by
  cases hr : rightP ps with
  | false => rfl
  | true =>
    unfold rightP at hr
    rw [Bool.and_eq_true, right_iff] at hr
    rw [(hr.2 i q hq).1] at h
    cases h
theorem right_twice {ps : List PairD} {i j : Nat} {q p : PairD} (hq : ps[i]? = some q) (hp : ps[j]? = some p) (hj : j < i) (h : p.1 = q.1) : rightP ps = false := by
  cases hr : rightP ps with
  | false => rfl
  | true =>
    unfold rightP at hr
    rw [Bool.and_eq_true, right_iff] at hr
    exact absurd h ((hr.2 i q hq).2.2 j p hj hp)
theorem right_long {ps : List PairD} (h : 200 < ps.length) : rightP ps = false := by
  unfold rightP
  rw [decide_eq_false (by omega)]
  rfl
theorem okPair_eq (q : PairD) : okPair q = (decide (1 ≤ q.1.length) && (decide (q.1.length ≤ 64) && (decide (1 ≤ q.2.length) && decide (q.2.length ≤ 1000)))) := by
  have h : ∀ l : List UInt8, (!l.isEmpty) = decide (1 ≤ l.length) := fun l => by cases l <;> simp
  unfold okPair
  rw [h, h]
set_option maxRecDepth 100000 in
set_option maxHeartbeats 6400000 in
theorem rightRef_any (ps : List PairD) (v : Value) (w : World) (hv : Pairs w v ps) (hlen : ps.length ≤ 1099511627775) :
    Calls Tryz.prog 10 #[v] w fun e w' => e = .returned (.bool (rightP ps)) ∧ Below w.heap.size w w' := by
  obtain ⟨p, c, rfl⟩ := hv.form
  obtain ⟨n, hn⟩ : ∃ n, ps.length = n := ⟨_, rfl⟩
  have HN := Lib.hid hn
  have HV := Lib.hid hv
  rw [hn] at hlen HV ⊢
  obtain ⟨rp, hrp⟩ : ∃ b, rightP ps = b := ⟨_, rfl⟩
  have HR := Lib.hid hrp
  rw [hrp]
  clear hv hn hrp
  by_cases hl : 200 < n
  · have hf : rp = false := HR.out.symm.trans (right_long (by rw [HN.out]; exact hl))
    subst hf
    have g1 : (200 : Int) < n := by omega
    clear hl
    go_enter Tryz.func10, Tryz.ntmps10
    go_wp2
    go_ret
    exact ⟨rfl, Below.refl _ _⟩
  · have g1 : ¬ ((200 : Int) < n) := by omega
    have g1d : decide ((200 : Int) < n) = false := decide_eq_false g1
    go_enter Tryz.func10, Tryz.ntmps10
    go_wp2_with fail
    go_loopw [3] (fun i wr => ∃ k : Nat, k ≤ n ∧ i = .int .i64 k ∧ Aside (OkTo ps k) ∧ Aside (Below w.heap.size w wr)) (fun i _ => n - (RowKit.intOf i).toNat)
    case atStart => exact ⟨0, Nat.zero_le _, rfl, (fun i q h => by omega), Below.refl _ _⟩
    case round =>
      obtain ⟨k, hk, rfl, HOK, HB⟩ := hrel
      by_cases hlt : k < n
      · obtain ⟨x, hx⟩ : ∃ x, ps[k]? = some x := ⟨_, List.getElem?_eq_getElem (by rw [HN.out]; exact hlt)⟩
        obtain ⟨-, bk, ob, rfl, hbk, hcl⟩ := HV.out.at (by intro h; rw [h] at hx; cases hx)
        have HC := Lib.hid (fun W (hb : Below w.heap.size w W) j (y : PairD) (hy : ps[j]? = some y) => (show W.cell? ⟨bk, ob + j * 2, none⟩ = some (.string ⟨y.1.toArray⟩) ∧ W.cell? ⟨bk, ob + j * 2 + 1, none⟩ = some (.string ⟨y.2.toArray⟩) from ⟨(hb.cell (p := ⟨bk, ob + j * 2, none⟩) hbk).trans (hcl j y hy).1, (hb.cell (p := ⟨bk, ob + j * 2 + 1, none⟩) hbk).trans (hcl j y hy).2⟩))
        obtain ⟨c1, c2⟩ := HC.out _ HB.out k x hx
        have HX := Lib.hid hx
        have hok := okPair_eq x
        have hs1 : (⟨x.1.toArray⟩ : ByteArray).size = x.1.length := rfl
        have hs2 : (⟨x.2.toArray⟩ : ByteArray).size = x.2.length := rfl
        obtain ⟨kl, hkl⟩ : ∃ n, x.1.length = n := ⟨_, rfl⟩
        obtain ⟨vl, hvl⟩ : ∃ n, x.2.length = n := ⟨_, rfl⟩
        rw [hkl] at hs1 hok
        rw [hvl] at hs2 hok
        have HOKX := Lib.hid hok
        have g2 : (0 : Int) ≤ k := by omega
        have g3 : (k : Int) < n := by omega
        clear hx hcl hkl hvl hok
        have hcase : kl < 1 ∨ (¬ kl < 1 ∧ (64 < kl ∨ (¬ 64 < kl ∧ (vl < 1 ∨ (¬ vl < 1 ∧ (1000 < vl ∨ ¬ 1000 < vl)))))) := by omega
        rcases hcase with h1 | ⟨h1, h2 | ⟨h2, h3 | ⟨h3, h4 | h4⟩⟩⟩
        · have j1 : (kl : Int) < 1 := by omega
          have hf : rp = false := HR.out.symm.trans (right_bad HX.out (by rw [HOKX.out, decide_eq_false (show ¬ 1 ≤ kl by omega)]; simp))
          subst hf
          clear h1
          go_wp2
          go_ret
          exact ⟨rfl, HB.out⟩
        · have j1 : ¬ ((kl : Int) < 1) := by omega
          have j1d : decide ((kl : Int) < 1) = false := decide_eq_false j1
          have j2 : (64 : Int) < kl := by omega
          have hf : rp = false := HR.out.symm.trans (right_bad HX.out (by rw [HOKX.out, decide_eq_false (show ¬ kl ≤ 64 by omega)]; simp))
          subst hf
          clear h1 h2
          go_wp2
          go_ret
          exact ⟨rfl, HB.out⟩
        · have j1 : ¬ ((kl : Int) < 1) := by omega
          have j1d : decide ((kl : Int) < 1) = false := decide_eq_false j1
          have j2 : ¬ ((64 : Int) < kl) := by omega
          have j2d : decide ((64 : Int) < kl) = false := decide_eq_false j2
          have j3 : (vl : Int) < 1 := by omega
          have hf : rp = false := HR.out.symm.trans (right_bad HX.out (by rw [HOKX.out, decide_eq_false (show ¬ 1 ≤ vl by omega)]; simp))
          subst hf
          clear h1 h2 h3
          go_wp2
          go_ret
          exact ⟨rfl, HB.out⟩
        · have j1 : ¬ ((kl : Int) < 1) := by omega
          have j1d : decide ((kl : Int) < 1) = false := decide_eq_false j1
          have j2 : ¬ ((64 : Int) < kl) := by omega
          have j2d : decide ((64 : Int) < kl) = false := decide_eq_false j2
          have j3 : ¬ ((vl : Int) < 1) := by omega
          have j3d : decide ((vl : Int) < 1) = false := decide_eq_false j3
          have j4 : (1000 : Int) < vl := by omega
          have hf : rp = false := HR.out.symm.trans (right_bad HX.out (by rw [HOKX.out, decide_eq_false (show ¬ vl ≤ 1000 by omega)]; simp))
          subst hf
          clear h1 h2 h3 h4
          go_wp2
          go_ret
          exact ⟨rfl, HB.out⟩
        · have j1 : ¬ ((kl : Int) < 1) := by omega
          have j1d : decide ((kl : Int) < 1) = false := decide_eq_false j1
          have j2 : ¬ ((64 : Int) < kl) := by omega
          have j2d : decide ((64 : Int) < kl) = false := decide_eq_false j2
          have j3 : ¬ ((vl : Int) < 1) := by omega
          have j3d : decide ((vl : Int) < 1) = false := decide_eq_false j3
          have j4 : ¬ ((1000 : Int) < vl) := by omega
          have j4d : decide ((1000 : Int) < vl) = false := decide_eq_false j4
          have HKX := Lib.hid (show okPair x = true from by rw [HOKX.out, decide_eq_true (show 1 ≤ kl by omega), decide_eq_true (show kl ≤ 64 by omega), decide_eq_true (show 1 ≤ vl by omega), decide_eq_true (show vl ≤ 1000 by omega)]; rfl)
          clear h1 h2 h3 h4
          go_wp2_with fail
          clear c1 c2
          go_loopw [4] (fun j wi => ∃ m : Nat, m ≤ k ∧ j = .int .i64 m ∧ Aside (∀ (j : Nat) y, j < m → ps[j]? = some y → y.1 ≠ x.1) ∧ Aside (Below w.heap.size w wi)) (fun j _ => k - (RowKit.intOf j).toNat)
          case atStart => exact ⟨0, Nat.zero_le _, rfl, (fun j y h => by omega), HB.out⟩
          case round =>
            obtain ⟨m, hm, rfl, HNE, HBI⟩ := hrel
            by_cases hmk : m < k
            · obtain ⟨y, hy⟩ : ∃ y, ps[m]? = some y := ⟨_, List.getElem?_eq_getElem (by rw [HN.out]; omega)⟩
              have HY := Lib.hid hy
              have HSS := Lib.hid (fun W (hb : Below w.heap.size w W) => And.intro (HC.out W hb m y HY.out).1 (HC.out W hb k x HX.out).1)
              have i0 : (0 : Int) ≤ m := by omega
              have i1 : (m : Int) < k := by omega
              have i2 : (m : Int) < n := by omega
              have b0 : Below w.heap.size w _ := HBI.out.drew
              clear hy
              by_cases he : y.1 = x.1
              · have q1 : (y.1 == x.1) = true := by rw [he]; exact beq_self_eq_true _
                have hf : rp = false := HR.out.symm.trans (right_twice HX.out HY.out hmk he)
                subst hf
                clear he
                go_wp2_with fail
                refine wp_region_held_drew (S := (fun W => W.cell? ⟨bk, ob + m * 2, none⟩ = some (.string ⟨y.1.toArray⟩) ∧ W.cell? ⟨bk, ob + k * 2, none⟩ = some (.string ⟨x.1.toArray⟩))) (by kernel_rfl) (HSS.out _ b0) (fun hHeld => ?_)
                refine wpAnyH_take (i := 0) (v := ?_) rfl (by kernel_rfl) (by kernel_rfl) (by kernel_rfl) (fun _ _ _ h => h) (.inl ⟨by rfl, ?_⟩) (by assumption) ?_
                rotate_left 1
                · intro w0 hSw
                  go_simp <;> with_reducible rfl
                try simp only [Act.put, zq1, zq2, zq4, zq5, zq6]
                refine wpAnyH_take (i := 1) (v := ?_) rfl (by kernel_rfl) (by kernel_rfl) (by kernel_rfl) (fun _ _ _ h => h) (.inl ⟨by rfl, ?_⟩) (by assumption) ?_
                rotate_left 1
                · intro w0 hSw
                  go_simp <;> with_reducible rfl
                try simp only [Act.put, zq1, zq2, zq3, zq4, zq5, zq6]
                refine wpAnyH_take (i := 2) (v := ?_) rfl (by kernel_rfl) (by kernel_rfl) (by kernel_rfl) (fun _ _ _ h => h) (.inl ⟨by rfl, ?_⟩) (by assumption) ?_
                rotate_left 1
                · intro w0 hSw
                  go_simp <;> with_reducible rfl
                try simp only [Act.put, zq1, zq2, zq3, zq4, zq5, zq6]
                refine wpAnyH_take (i := 3) (v := ?_) rfl (by kernel_rfl) (by kernel_rfl) (by kernel_rfl) (fun _ _ _ h => h) (.inl ⟨by rfl, ?_⟩) (by assumption) ?_
                rotate_left 1
                · intro w0 hSw
                  go_simp <;> with_reducible rfl
                try simp only [Act.put, zq1, zq2, zq3, zq4, zq5, zq6]
                refine wpAnyH_take (i := 4) (v := ?_) rfl (by kernel_rfl) (by kernel_rfl) (by kernel_rfl) (fun _ _ _ h => h) (.inl ⟨by rfl, ?_⟩) (by assumption) ?_
                rotate_left 1
                · intro w0 hSw
                  obtain ⟨z0, z1⟩ := hSw
                  go_simp <;> with_reducible rfl
                try simp only [Act.put, zq1, zq2, zq3, zq4, zq5, zq6]
                refine wpAnyH_take (i := 5) (v := ?_) rfl (by kernel_rfl) (by kernel_rfl) (by kernel_rfl) (fun _ _ _ h => h) (.inl ⟨by rfl, ?_⟩) (by assumption) ?_
                rotate_left 1
                · intro w0 hSw
                  go_simp <;> with_reducible rfl
                try simp only [Act.put, zq1, zq2, zq3, zq4, zq5, zq6]
                refine wpAnyH_take (i := 6) (v := ?_) rfl (by kernel_rfl) (by kernel_rfl) (by kernel_rfl) (fun _ _ _ h => h) (.inl ⟨by rfl, ?_⟩) (by assumption) ?_
                rotate_left 1
                · intro w0 hSw
                  go_simp <;> with_reducible rfl
                try simp only [Act.put, zq1, zq2, zq3, zq4, zq5, zq6]
                refine wpAnyH_take (i := 7) (v := ?_) rfl (by kernel_rfl) (by kernel_rfl) (by kernel_rfl) (fun _ _ _ h => h) (.inl ⟨by rfl, ?_⟩) (by assumption) ?_
                rotate_left 1
                · intro w0 hSw
                  go_simp <;> with_reducible rfl
                try simp only [Act.put, zq1, zq2, zq3, zq4, zq5, zq6]
                refine wpAnyH_take (i := 8) (v := ?_) rfl (by kernel_rfl) (by kernel_rfl) (by kernel_rfl) (fun _ _ _ h => h) (.inl ⟨by rfl, ?_⟩) (by assumption) ?_
                rotate_left 1
                · intro w0 hSw
                  go_simp <;> with_reducible rfl
                try simp only [Act.put, zq1, zq2, zq3, zq4, zq5, zq6]
                refine wpAnyH_take (i := 9) (v := ?_) rfl (by kernel_rfl) (by kernel_rfl) (by kernel_rfl) (fun _ _ _ h => h) (.inl ⟨by rfl, ?_⟩) (by assumption) ?_
                rotate_left 1
                · intro w0 hSw
                  obtain ⟨z0, z1⟩ := hSw
                  go_simp <;> with_reducible rfl
                try simp only [Act.put, zq1, zq2, zq3, zq4, zq5, zq6]
                refine wpAnyH_take (i := 10) (v := ?_) rfl (by kernel_rfl) (by kernel_rfl) (by kernel_rfl) (fun _ _ _ h => h) (.inl ⟨by rfl, ?_⟩) (by assumption) ?_
                rotate_left 1
                · intro w0 hSw
                  go_simp <;> with_reducible rfl
                try simp only [Act.put, zq1, zq2, zq3, zq4, zq5, zq6]
                refine wpAnyH_done (by kernel_rfl) ?_ 0
                go_wp2
                go_ret
                exact ⟨rfl, b0⟩
              · have q1 : (y.1 == x.1) = false := beq_eq_false_iff_ne.2 he
                have HE := Lib.hid he
                clear he
                go_wp2_with fail
                refine wp_region_held_drew (S := (fun W => W.cell? ⟨bk, ob + m * 2, none⟩ = some (.string ⟨y.1.toArray⟩) ∧ W.cell? ⟨bk, ob + k * 2, none⟩ = some (.string ⟨x.1.toArray⟩))) (by kernel_rfl) (HSS.out _ b0) (fun hHeld => ?_)
                refine wpAnyH_take (i := 0) (v := ?_) rfl (by kernel_rfl) (by kernel_rfl) (by kernel_rfl) (fun _ _ _ h => h) (.inl ⟨by rfl, ?_⟩) (by assumption) ?_
                rotate_left 1
                · intro w0 hSw
                  go_simp <;> with_reducible rfl
                try simp only [Act.put, zq1, zq2, zq4, zq5, zq6]
                refine wpAnyH_take (i := 1) (v := ?_) rfl (by kernel_rfl) (by kernel_rfl) (by kernel_rfl) (fun _ _ _ h => h) (.inl ⟨by rfl, ?_⟩) (by assumption) ?_
                rotate_left 1
                · intro w0 hSw
                  go_simp <;> with_reducible rfl
                try simp only [Act.put, zq1, zq2, zq3, zq4, zq5, zq6]
                refine wpAnyH_take (i := 2) (v := ?_) rfl (by kernel_rfl) (by kernel_rfl) (by kernel_rfl) (fun _ _ _ h => h) (.inl ⟨by rfl, ?_⟩) (by assumption) ?_
                rotate_left 1
                · intro w0 hSw
                  go_simp <;> with_reducible rfl
                try simp only [Act.put, zq1, zq2, zq3, zq4, zq5, zq6]
                refine wpAnyH_take (i := 3) (v := ?_) rfl (by kernel_rfl) (by kernel_rfl) (by kernel_rfl) (fun _ _ _ h => h) (.inl ⟨by rfl, ?_⟩) (by assumption) ?_
                rotate_left 1
                · intro w0 hSw
                  go_simp <;> with_reducible rfl
                try simp only [Act.put, zq1, zq2, zq3, zq4, zq5, zq6]
                refine wpAnyH_take (i := 4) (v := ?_) rfl (by kernel_rfl) (by kernel_rfl) (by kernel_rfl) (fun _ _ _ h => h) (.inl ⟨by rfl, ?_⟩) (by assumption) ?_
                rotate_left 1
                · intro w0 hSw
                  obtain ⟨z0, z1⟩ := hSw
                  go_simp <;> with_reducible rfl
                try simp only [Act.put, zq1, zq2, zq3, zq4, zq5, zq6]
                refine wpAnyH_take (i := 5) (v := ?_) rfl (by kernel_rfl) (by kernel_rfl) (by kernel_rfl) (fun _ _ _ h => h) (.inl ⟨by rfl, ?_⟩) (by assumption) ?_
                rotate_left 1
                · intro w0 hSw
                  go_simp <;> with_reducible rfl
                try simp only [Act.put, zq1, zq2, zq3, zq4, zq5, zq6]
                refine wpAnyH_take (i := 6) (v := ?_) rfl (by kernel_rfl) (by kernel_rfl) (by kernel_rfl) (fun _ _ _ h => h) (.inl ⟨by rfl, ?_⟩) (by assumption) ?_
                rotate_left 1
                · intro w0 hSw
                  go_simp <;> with_reducible rfl
                try simp only [Act.put, zq1, zq2, zq3, zq4, zq5, zq6]
                refine wpAnyH_take (i := 7) (v := ?_) rfl (by kernel_rfl) (by kernel_rfl) (by kernel_rfl) (fun _ _ _ h => h) (.inl ⟨by rfl, ?_⟩) (by assumption) ?_
                rotate_left 1
                · intro w0 hSw
                  go_simp <;> with_reducible rfl
                try simp only [Act.put, zq1, zq2, zq3, zq4, zq5, zq6]
                refine wpAnyH_take (i := 8) (v := ?_) rfl (by kernel_rfl) (by kernel_rfl) (by kernel_rfl) (fun _ _ _ h => h) (.inl ⟨by rfl, ?_⟩) (by assumption) ?_
                rotate_left 1
                · intro w0 hSw
                  go_simp <;> with_reducible rfl
                try simp only [Act.put, zq1, zq2, zq3, zq4, zq5, zq6]
                refine wpAnyH_take (i := 9) (v := ?_) rfl (by kernel_rfl) (by kernel_rfl) (by kernel_rfl) (fun _ _ _ h => h) (.inl ⟨by rfl, ?_⟩) (by assumption) ?_
                rotate_left 1
                · intro w0 hSw
                  obtain ⟨z0, z1⟩ := hSw
                  go_simp <;> with_reducible rfl
                try simp only [Act.put, zq1, zq2, zq3, zq4, zq5, zq6]
                refine wpAnyH_take (i := 10) (v := ?_) rfl (by kernel_rfl) (by kernel_rfl) (by kernel_rfl) (fun _ _ _ h => h) (.inl ⟨by rfl, ?_⟩) (by assumption) ?_
                rotate_left 1
                · intro w0 hSw
                  go_simp <;> with_reducible rfl
                try simp only [Act.put, zq1, zq2, zq3, zq4, zq5, zq6]
                refine wpAnyH_done (by kernel_rfl) ?_ 0
                go_wp2
                go_roundw
                case rel => exact ⟨m + 1, by omega, by go_num, (fun j z hj hz => by
                  rcases Nat.lt_or_ge j m with h | h
                  · exact HNE.out j z h hz
                  · obtain rfl : j = m := by omega
                    rw [HY.out] at hz
                    cases hz
                    exact HE.out), b0⟩
                case measure => simp [RowKit.intOf]; omega
            · obtain rfl : m = k := by omega
              go_wp2
              go_roundw
              case rel => exact ⟨m + 1, by omega, by go_num, (fun i q hi hq => by
                rcases Nat.lt_or_ge i m with h | h
                · exact HOK.out i q h hq
                · obtain rfl : i = m := by omega
                  rw [HX.out] at hq
                  cases hq
                  exact ⟨HKX.out, fun j p hj hp => HNE.out j p hj hp⟩), HBI.out⟩
              case measure => simp [RowKit.intOf]; omega
      · obtain rfl : k = n := by omega
        have hf : rp = true := HR.out.symm.trans (right_ok (by rw [HN.out]; exact HOK.out) (by rw [HN.out]; omega))
        subst hf
        go_wp2
        go_ret
        exact ⟨rfl, HB.out⟩
def rootR (ps : List PairD) : List UInt8 × Int := if rightP ps then (rootP keccakL ps, 0) else ([], 60)
def proveR (ps : List PairD) (key : List UInt8) : List (List UInt8) × Int := if rightP ps then (match ps with | [] => [] | _ => wayP keccakL 129 ps 0 (halves key), 0) else ([], 60)
theorem right_len {ps : List PairD} (h : rightP ps = true) : ps.length ≤ 200 := by
  unfold rightP at h
  rw [Bool.and_eq_true, decide_eq_true_eq] at h
  exact h.1
set_option maxRecDepth 100000 in
set_option maxHeartbeats 3200000 in
theorem rootRef_any (ps : List PairD) (v : Value) (w : World) (hv : Pairs w v ps) (hlen : ps.length ≤ 1099511627775) :
    Calls Tryz.prog 8 #[v] w fun e w' => e = .returned (.tuple #[.string ⟨(rootR ps).1.toArray⟩, .int .i64 (rootR ps).2]) ∧ Below w.heap.size w w' := by
  have H1 := Lib.hid (rightRef_any ps v w hv hlen)
  unfold rootR
  obtain ⟨b, hb⟩ : ∃ b, rightP ps = b := ⟨_, rfl⟩
  rw [hb] at H1 ⊢
  cases b with
  | false =>
    show Calls _ _ _ _ (fun e w' => e = .returned (.tuple #[.string ⟨#[]⟩, .int .i64 60]) ∧ Below w.heap.size w w')
    clear hv hb
    go_enter Tryz.func8, Tryz.ntmps8
    go_wp2_with fail
    refine H1.out.mono ?_
    rintro e w1 ⟨rfl, hb1⟩
    have HB1 := Lib.hid hb1
    clear hb1
    go_wp2
    go_ret2
    exact ⟨rfl, HB1.out⟩
  | true =>
    rw [if_pos rfl]
    have hl2 := right_len hb
    obtain ⟨p, c, rfl⟩ := hv.form
    by_cases hne : ps = []
    · subst hne
      obtain ⟨k, hk⟩ : ∃ k, keccakL [128] = k := ⟨_, rfl⟩
      show Calls _ _ _ _ (fun e w' => e = .returned (.tuple #[.string ⟨(keccakL [128]).toArray⟩, .int .i64 0]) ∧ Below w.heap.size w w')
      rw [hk]
      have H2 := Lib.hid (fun W => rkSum_l (l := [128]) hk (by simp) W)
      clear hv hb hk
      have hl0 : ([] : List PairD).length = 0 := rfl
      rw [hl0] at H1 ⊢
      go_enter Tryz.func8, Tryz.ntmps8
      go_wp2_with fail
      refine H1.out.mono ?_
      rintro e w1 ⟨rfl, hb1⟩
      have HB1 := Lib.hid hb1
      clear hb1
      go_wp2_with fail
      refine (H2.out _).mono ?_
      rintro e w2 ⟨rfl, hb2⟩
      have HB2 := Lib.hid (HB1.out.trans (hb2.mono HB1.out.size))
      clear hb2
      go_wp2
      go_ret2
      exact ⟨rfl, HB2.out⟩
    · obtain ⟨hval, hfa⟩ := right_valid hb hne
      rw [root_cons (K := keccakL) hne]
      obtain ⟨by0, hby⟩ : ∃ b, bytesP keccakL 129 ps 0 = b := ⟨_, rfl⟩
      have H2 := Lib.hid (fun W (hb : Below w.heap.size w W) => bytesRef_all 129 ps 0 _ W (hv.after hb) hval hfa (by omega) (by omega))
      obtain ⟨fb, hfit⟩ := node_fit (K := keccakL) keccakL_length 129 ps 0 hval hfa (by omega)
      have hbl : by0.length ≤ 20000 := by rw [← hby]; unfold bytesP; rw [hfit.encode]; exact hfit.short
      rw [hby] at H2 ⊢
      obtain ⟨k, hk⟩ : ∃ k, keccakL by0 = k := ⟨_, rfl⟩
      rw [hk]
      have H3 := Lib.hid (fun W => rkSum_l hk (by omega) W)
      have hn0 : ps.length ≠ 0 := fun e => hne (List.length_eq_zero_iff.1 e)
      obtain ⟨n, hn⟩ : ∃ n, ps.length = n := ⟨_, rfl⟩
      rw [hn] at H1 H2 hn0 hl2 ⊢
      have g1 : ((n : Int) == 0) = false := by simp; omega
      have g2 : ¬ ((n : Int) = 0) := by omega
      clear hv hb hk hval hfa hby hfit hn hne hn0 hlen
      go_enter Tryz.func8, Tryz.ntmps8
      go_wp2_with fail
      refine H1.out.mono ?_
      rintro e w1 ⟨rfl, hb1⟩
      have HB1 := Lib.hid hb1
      clear hb1
      go_wp2_with fail
      refine (H2.out _ HB1.out).mono ?_
      rintro e w2 ⟨rfl, hb2⟩
      have HB2 := Lib.hid (HB1.out.trans (hb2.mono HB1.out.size))
      clear hb2
      go_wp2_with fail
      refine (H3.out _).mono ?_
      rintro e w3 ⟨rfl, hb3⟩
      have HB3 := Lib.hid (HB2.out.trans (hb3.mono HB2.out.size))
      clear hb3
      go_wp2
      go_ret2
      exact ⟨rfl, HB3.out⟩
def TextsR (w : World) (l : List (List UInt8)) (er : Int) (e : Ending) (w' : World) : Prop := ∃ p c, e = .returned (.tuple #[.slice p l.length c, .int .i64 er]) ∧ OwnS w.heap.size w' (.slice p l.length c) (l.map bt) ∧ Below w.heap.size w w'
set_option maxRecDepth 100000 in
set_option maxHeartbeats 3200000 in
theorem proveRef_any (ps : List PairD) (key : List UInt8) (v : Value) (w : World) (hv : Pairs w v ps) (hlen : ps.length ≤ 1099511627775) (hk : key.length ≤ 4294967296) :
    Calls Tryz.prog 22 #[v, .string ⟨key.toArray⟩] w (TextsR w (proveR ps key).1 (proveR ps key).2) := by
  have H1 := Lib.hid (rightRef_any ps v w hv hlen)
  unfold proveR
  obtain ⟨b, hb⟩ : ∃ b, rightP ps = b := ⟨_, rfl⟩
  rw [hb] at H1 ⊢
  cases b with
  | false =>
    show Calls _ _ _ _ (TextsR w [] 60)
    clear hv hb
    go_enter Tryz.func22, Tryz.ntmps22
    go_wp2_with fail
    refine H1.out.mono ?_
    rintro e w1 ⟨rfl, hb1⟩
    have HB1 := Lib.hid hb1
    clear hb1
    go_wp2
    go_ret2
    exact ⟨none, 0, rfl, OwnS.nil _ _, HB1.out⟩
  | true =>
    rw [if_pos rfl]
    have hl2 := right_len hb
    obtain ⟨p, c, rfl⟩ := hv.form
    rcases ps with _ | ⟨q, r⟩
    · show Calls _ _ _ _ (TextsR w [] 0)
      clear hv hb
      have hl0 : ([] : List PairD).length = 0 := rfl
      rw [hl0] at H1 ⊢
      go_enter Tryz.func22, Tryz.ntmps22
      go_wp2_with fail
      refine H1.out.mono ?_
      rintro e w1 ⟨rfl, hb1⟩
      have HB1 := Lib.hid hb1
      clear hb1
      go_wp2
      go_ret2
      exact ⟨none, 0, rfl, OwnS.nil _ _, HB1.out⟩
    · dsimp only
      obtain ⟨hval, hfa⟩ := right_valid hb (by simp)
      obtain ⟨P, hP⟩ : ∃ P, halves key = P := ⟨_, rfl⟩
      have hPl : P.length ≤ 8589934592 := by rw [← hP, halves_length]; omega
      have H2 := Lib.hid (fun W => ofRef_any ⟨key.toArray⟩ W hk)
      rw [show halves (⟨key.toArray⟩ : ByteArray).data.toList = P from hP] at H2
      rw [hP]
      obtain ⟨pw, hpw⟩ : ∃ l, wayP keccakL 129 (q :: r) 0 P = l := ⟨_, rfl⟩
      have H3 := Lib.hid (fun W (hb : Below w.heap.size w W) => wayRef_any 129 (q :: r) 0 P _ none 0 [] w.heap.size W (hv.after hb) hval hfa (by omega) (by omega) hPl (OwnS.nil _ _) hb.size (by simp) (fun k _ e => by cases e))
      rw [hpw] at H3 ⊢
      have hn0 : (q :: r).length ≠ 0 := by simp
      obtain ⟨n, hn⟩ : ∃ n, (q :: r).length = n := ⟨_, rfl⟩
      rw [hn] at H1 H3 hn0 hl2 ⊢
      have g1 : ((n : Int) == 0) = false := by simp; omega
      have g2 : ¬ ((n : Int) = 0) := by omega
      clear hv hb hval hfa hn hn0 hP hpw hlen hk
      go_enter Tryz.func22, Tryz.ntmps22
      go_wp2_with fail
      refine H1.out.mono ?_
      rintro e w1 ⟨rfl, hb1⟩
      have HB1 := Lib.hid hb1
      clear hb1
      go_wp2_with fail
      refine (H2.out _).mono ?_
      rintro e w2 ⟨rfl, hb2⟩
      have HB2 := Lib.hid (HB1.out.trans (hb2.mono HB1.out.size))
      clear hb2
      go_wp2_with fail
      have h3 := H3.out _ HB2.out
      rw [List.nil_append] at h3
      refine h3.mono ?_
      rintro e w3 ⟨p3, c3, rfl, ho3, hb3, -⟩
      rw [List.length_map] at ho3 ⊢
      have HO3 := Lib.hid ho3
      have HB3 := Lib.hid (HB2.out.trans hb3)
      clear ho3 hb3
      go_wp2
      go_ret2
      exact ⟨p3, c3, rfl, HO3.out, HB3.out⟩
end Go.Proofs.YthicdhnjincflaaGreatDoor
