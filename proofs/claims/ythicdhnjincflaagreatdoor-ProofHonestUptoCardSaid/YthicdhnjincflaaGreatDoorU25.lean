/- What the walks take: PrfB, PrfF, PrfJ. -/
import Derived.Test.YthicdhnjincflaaGreatDoorU0
import Derived.Test.YthicdhnjincflaaGreatDoorU4
import Derived.Test.YthicdhnjincflaaGreatDoorU10
import Derived.Test.YthicdhnjincflaaGreatDoorU13
import Derived.Test.YthicdhnjincflaaGreatDoorU14
import Derived.Test.YthicdhnjincflaaGreatDoorU19
import Derived.Test.YthicdhnjincflaaGreatDoorU22
import Derived.Test.YthicdhnjincflaaGreatDoorU23
import Derived.Test.YthicdhnjincflaaGreatDoorU24
import Derived.OrdersIn
import Derived.OwnWalkIn
import Derived.TacticsInMore
import Derived.LoopNIn
import Derived.LoopIn
import Derived.Test.YthicdhnjincflaaGreatDoorShelfR
namespace Go.Proofs.YthicdhnjincflaaGreatDoor
open Go.RowKit Go.Shelf Go.Lib
attribute [local go_sem] Oper.semAt_some
abbrev ElR := Item × Value
def encR (x : ElR) : Array Value := #[.agg #[.bool x.1.isList, .string ⟨x.1.text.toArray⟩, x.2]]
def StepP (A B : World) : Prop := Below A.heap.size A B
def KeepB (B1 : Nat) (W W' : World) : Prop := W.heap.size ≤ W'.heap.size ∧ ∀ g, g < B1 → W'.heap[g]? = W.heap[g]?
theorem KeepB.trans {B1 : Nat} {A B C : World} (h : KeepB B1 A B) (k : KeepB B1 B C) : KeepB B1 A C := ⟨Nat.le_trans h.1 k.1, fun g hg => (k.2 g hg).trans (h.2 g hg)⟩
theorem KeepB.below {B1 : Nat} {A B : World} (h : Below A.heap.size A B) (h1 : B1 ≤ A.heap.size) : KeepB B1 A B := ⟨h.size, fun g hg => h.block g (by omega)⟩
theorem KeepB.refl (B1 : Nat) (W : World) : KeepB B1 W W := ⟨Nat.le_refl _, fun _ _ => rfl⟩
def refsOf (l : List Item) : List Item := l.filter fun y => !emptyI y
def GoodR (l : List Item) (B1 : Nat) (_ : List ElR) (x : ElR) (_ W1 : World) : Prop :=
  x.1 ∈ l ∧ emptyI x.1 = false ∧ (∃ p n c, x.2 = .slice p n c) ∧ Reads W1 B1 x.2 x.1.list
def RelR (l : List Item) (pre : List ElR) : Prop := ∀ q ∈ pre, q.1 ∈ l ∧ emptyI q.1 = false
theorem RelR.snoc {l : List Item} {pre : List ElR} {x : ElR} (h : RelR l pre) (h1 : x.1 ∈ l) (h2 : emptyI x.1 = false) : RelR l (pre ++ [x]) := fun q hq => by
  rcases List.mem_append.1 hq with hq | hq
  · exact h q hq
  · rw [List.mem_singleton] at hq
    rw [hq]
    exact ⟨h1, h2⟩
theorem refs_any (F : Fence) (n : Nat) (hf : F.fn 79) (hro : F.round = none) (b : Bool) (t : ByteArray) (p : Option Addr) (m c : Nat) (w : World) :
    CallsIn F n Tryz.prog 79 #[.agg #[.bool b, .string t, .slice p m c]] w fun e w' => e = .returned (.func (.func 103) #[] #[.pointer (some ⟨w.heap.size, 0, none⟩)]) ∧ w' = w.alloc (.cells #[.bool b, .string t, .slice p m c] 46) := by
  refine callsIn_of_wp Tryz.func79 rfl hf ?_ hro
  simp only [Tryz.ntmps79, List.size_toArray, List.length_cons, List.length_nil, Nat.reduceAdd, Nat.reduceSub, Array.replicate_succ, Array.replicate_zero, List.push_toArray, List.append_toArray, List.nil_append, List.cons_append]
  gi_wp2
  go_ret
  exact ⟨rfl, rfl⟩
set_option maxRecDepth 100000 in
set_option maxHeartbeats 6400000 in
theorem refs_body (n : Nat) (hn : 1 ≤ n) (l Bn : Nat) (b : Bool) (t : ByteArray) (ys : List Item) (p : Option Addr) (c : Nat) (hlen : ys.length = 17) (J Jx : List ElR → World → Prop)
    (hJs : ∀ s A B, J s A → StepP A B → J s B)
    (hY : ∀ pre x W0 W1, J pre W0 → StepP W0 W1 → GoodR (ys.take 16) Bn pre x W0 W1 → YieldAt Fence.wide (n - 1) Tryz.prog l (encR x) W1 fun e W' =>
      (e = .returned (.bool true) ∧ J (pre ++ [x]) W' ∧ KeepB (Bn + 1) W1 W') ∨ (e = .returned (.bool false) ∧ Jx (pre ++ [x]) W'))
    (W : World) (hbox : HasCells W Bn [.bool b, .string t, .slice p 17 c] 46) (hr : Reads W Bn (.slice p 17 c) ys) (h0 : J [] W) :
    CallsIn Fence.wide n Tryz.prog 103 #[.func (.yield l) #[] #[], .pointer (some ⟨Bn, 0, none⟩)] W fun e W' => (∃ v, e = .returned v) ∧
      ((∃ xs, (RelR (ys.take 16) xs ∧ xs.map Prod.fst = refsOf (ys.take 16)) ∧ J xs W') ∨ (∃ pre, RelR (ys.take 16) pre ∧ Jx pre W')) := by
  have HN := Lib.hid hlen
  have HR := Lib.hid hr
  have HBX := Lib.hid hbox
  have HJS := Lib.hid hJs
  have c2 := hbox.cell (j := 2) rfl
  obtain ⟨-, g, o, rfl, hg, hat⟩ := Reads.at hr (by omega)
  have HAT := Lib.hid hat
  have hcap := ReadsIn.cap hr
  rw [hlen] at hcap
  have q0 : (16 : Int) ≤ c := by omega
  clear hlen hr hbox hat hJs hcap
  refine callsIn_of_wp Tryz.func103 rfl trivial ?_ rfl
  simp only [Tryz.ntmps103, List.size_toArray, List.length_cons, List.length_nil, Nat.reduceAdd, Nat.reduceSub, Array.replicate_succ, Array.replicate_zero, List.push_toArray, List.append_toArray, List.nil_append, List.cons_append]
  gi_wp2
  clear c2
  gi_loopw [9] (fun i wr => ∃ (k : Nat) (pre : List ElR), k ≤ 16 ∧ i = .int .i64 k ∧ J pre wr ∧ Hid (RelR (ys.take 16) pre) ∧ Hid (pre.map Prod.fst = refsOf (ys.take k)) ∧ Hid (KeepB (Bn + 1) W wr)) (fun i wr => 16 - (RowKit.intOf i).toNat)
  case atStart => exact ⟨0, [], Nat.zero_le _, rfl, h0, Lib.hid (fun q h => by cases h), Lib.hid rfl, Lib.hid (KeepB.refl _ _)⟩
  case round =>
    obtain ⟨k, pre, hk, rfl, hJ0, HREL, HMP, HK⟩ := hrel
    have g1 : (0 : Int) ≤ k := by omega
    by_cases hlt : k < 16
    · have g2 : (k : Int) < 16 := by omega
      obtain ⟨y, hy⟩ : ∃ y, ys[k]? = some y := ⟨_, List.getElem?_eq_getElem (by rw [HN.out]; omega)⟩
      obtain ⟨a0, a1, v', a2, hv'⟩ := HAT.out k y hy
      have hkb : ∀ q j u, q < Bn → W.cell? ⟨q, j, none⟩ = some u → wr.cell? ⟨q, j, none⟩ = some u := fun q j u hq hc => (World.cell?_of_block (a := ⟨q, j, none⟩) (HK.out.2 q (by omega))).trans hc
      have c0 := hkb _ _ _ hg a0
      have c1 := hkb _ _ _ hg a1
      have c2 := hkb _ _ _ hg a2
      have hv2 : Reads wr Bn v' y.list := ReadsIn.kept hv' (fun q u j hq hc => hkb q j u hq hc) (fun _ h => h)
      obtain ⟨q1, n1, rfl⟩ := hv2.form
      have hym : y ∈ ys.take 16 := List.mem_of_getElem? (i := k) (by rw [List.getElem?_take, if_pos hlt]; exact hy)
      have htk : refsOf (ys.take (k + 1)) = refsOf (ys.take k) ++ refsOf [y] := by
        unfold refsOf
        rw [List.take_add_one, hy, List.filter_append]
        rfl
      have hbn : Bn + 1 ≤ wr.heap.size := by have := HK.out.1; have := HBX.out.lt; omega
      have HV := Lib.hid hv2
      have HTK := Lib.hid htk
      have HBN := Lib.hid hbn
      have HYM := Lib.hid hym
      obtain ⟨ln, hln⟩ : ∃ n, y.list.length = n := ⟨_, rfl⟩
      rw [hln] at c2 HV
      obtain ⟨yt, hyt⟩ : ∃ t, y.text = t := ⟨_, rfl⟩
      have HYT := Lib.hid hyt
      rw [hyt] at c1
      have hj := hJ0
      have hlo := laid1 wr (.cells #[.bool y.isList, .string ⟨yt.toArray⟩, .slice q1 ln n1] 46)
      have HLO := Lib.hid hlo
      have HQY := Lib.hid (HasCells.new wr [.bool y.isList, .string ⟨yt.toArray⟩, .slice q1 ln n1] 46)
      have h1 := HJS.out _ _ _ hJ0 hlo
      have HGD := Lib.hid (fun (he : emptyI y = false) => (show GoodR (ys.take 16) Bn pre (y, Value.slice q1 ln n1) wr (wr.alloc (.cells #[.bool y.isList, .string ⟨yt.toArray⟩, .slice q1 ln n1] 46)) from
        ⟨HYM.out, he, ⟨_, _, _, rfl⟩, HV.out.below (hlo.mono (by omega)) (Nat.le_refl _)⟩))
      clear a0 a1 a2 hv' hkb hv2 hy hym htk hbn hln hyt hj hlo h1
      cases hil : y.isList with
      | true =>
        have he : emptyI y = false := by unfold emptyI; rw [hil]; rfl
        have HE := Lib.hid he
        have HONE := Lib.hid (show refsOf [y] = [y] from by unfold refsOf; rw [List.filter_cons, he]; rfl)
        rw [hil] at c0 HGD HLO HQY
        obtain ⟨f1, t1, a1, b1, hy1, hR1⟩ := hY pre (y, Value.slice q1 ln n1) wr (wr.alloc (.cells #[.bool true, .string ⟨yt.toArray⟩, .slice q1 ln n1] 46)) hJ0 HLO.out (HGD.out HE.out)
        simp only [encR] at hy1
        rw [hil, HYT.out] at hy1
        have HR1 := Lib.hid hR1
        clear hR1 he hil
        gi_wp2_with fail
        refine HR1.out.mono ?_
        rintro e W1 (⟨rfl, hJ1, hk1⟩ | ⟨rfl, hx1⟩)
        · gi_wp2
          go_roundw
          case rel => exact ⟨k + 1, pre ++ [(y, Value.slice q1 ln n1)], by omega, by go_num, hJ1, Lib.hid (HREL.out.snoc HYM.out HE.out), Lib.hid (by rw [List.map_append, HMP.out, HTK.out, HONE.out]; rfl), Lib.hid (HK.out.trans ((KeepB.below HLO.out HBN.out).trans hk1))⟩
          case measure => simp [RowKit.intOf]; omega
        · gi_wp2
          refine bodyPost_ret (results_none rfl _ _ _) rfl ?_
          exact ⟨⟨_, rfl⟩, .inr ⟨_, HREL.out.snoc HYM.out HE.out, hx1⟩⟩
      | false =>
        by_cases hte : yt = []
        · subst hte
          have he : emptyI y = true := by unfold emptyI; rw [hil, HYT.out]; rfl
          have HONE := Lib.hid (show refsOf [y] = [] from by unfold refsOf; rw [List.filter_cons, he]; rfl)
          rw [hil] at c0 HLO
          clear he
          gi_wp2
          refine ⟨(fun f hf => by cases hf), ?_⟩
          gi_wp2
          go_roundw
          case rel => exact ⟨k + 1, pre, by omega, by go_num, HJS.out _ _ _ hJ0 HLO.out, HREL, Lib.hid (by rw [HTK.out, HONE.out, List.append_nil]; exact HMP.out), Lib.hid (HK.out.trans (KeepB.below HLO.out HBN.out))⟩
          case measure => simp [RowKit.intOf]; omega
        · have he : emptyI y = false := by
            unfold emptyI
            rw [hil, HYT.out]
            cases yt with
            | nil => exact absurd rfl hte
            | cons a r => rfl
          have q2 : (yt == []) = false := beq_eq_false_iff_ne.2 hte
          have HE := Lib.hid he
          have HONE := Lib.hid (show refsOf [y] = [y] from by unfold refsOf; rw [List.filter_cons, he]; rfl)
          rw [hil] at c0 HGD HLO HQY
          obtain ⟨f1, t1, a1, b1, hy1, hR1⟩ := hY pre (y, Value.slice q1 ln n1) wr (wr.alloc (.cells #[.bool false, .string ⟨yt.toArray⟩, .slice q1 ln n1] 46)) hJ0 HLO.out (HGD.out HE.out)
          simp only [encR] at hy1
          rw [hil, HYT.out] at hy1
          have HR1 := Lib.hid hR1
          clear hR1 he hil hte
          gi_wp2_with fail
          refine HR1.out.mono ?_
          rintro e W1 (⟨rfl, hJ1, hk1⟩ | ⟨rfl, hx1⟩)
          · gi_wp2
            go_roundw
            case rel => exact ⟨k + 1, pre ++ [(y, Value.slice q1 ln n1)], by omega, by go_num, hJ1, Lib.hid (HREL.out.snoc HYM.out HE.out), Lib.hid (by rw [List.map_append, HMP.out, HTK.out, HONE.out]; rfl), Lib.hid (HK.out.trans ((KeepB.below HLO.out HBN.out).trans hk1))⟩
            case measure => simp [RowKit.intOf]; omega
          · gi_wp2
            refine bodyPost_ret (results_none rfl _ _ _) rfl ?_
            exact ⟨⟨_, rfl⟩, .inr ⟨_, HREL.out.snoc HYM.out HE.out, hx1⟩⟩
    · have g2 : ¬ ((k : Int) < 16) := by omega
      have hk16 : k = 16 := by omega
      gi_wp2
      go_end0
      exact ⟨⟨_, rfl⟩, .inl ⟨pre, ⟨HREL.out, by rw [HMP.out, hk16]⟩, hJ0⟩⟩
end Go.Proofs.YthicdhnjincflaaGreatDoor
/- Contracts of proof.isRef and proof.isNode. -/
namespace Go.Proofs.YthicdhnjincflaaGreatDoor
open Go.RowKit Go.Shelf Go.Lib
attribute [local go_sem] Oper.semAt_some
def Small (x : Item) : Prop := wrong x = false ∧ (put x).length ≤ 65536
theorem Small.size {x : Item} (h : Small x) : x.size ≤ 65536 := Nat.le_trans ((size_put x.size).1 x (Nat.le_refl _) h.1) h.2
theorem Small.child {x y : Item} (h : Small x) (hy : y ∈ x.list) : Small y ∧ y.size < x.size := by
  have hsz : y.size < x.size := by
    obtain ⟨i, hi⟩ := List.getElem?_of_mem hy
    exact size_child hi
  refine ⟨?_, hsz⟩
  cases x with
  | mk b t l =>
    cases b with
    | false =>
      have h1 : wrong (.mk false t l) = false := h.1
      rw [wrong_eq] at h1
      have h2 : (!l.isEmpty) = false := h1
      have : l = [] := by simpa using h2
      subst this
      cases hy
    | true =>
      have h1 : wrong (.mk true t l) = false := h.1
      rw [wrong_eq] at h1
      have h2 : (!t.isEmpty || l.any wrong) = false := h1
      have h3 := List.any_eq_false.1 (Bool.or_eq_false_iff.1 h2).2 y hy
      have h4 := tp_mem (show y ∈ l from hy)
      have h5 : (putAll l).length + 1 ≤ (put (.mk true t l)).length := (tp_framed (putAll l) 192).1
      have h6 := h.2
      have h7 : l.length ≠ 0 := fun e => by rw [List.length_eq_zero_iff.1 e] at hy; cases hy
      exact ⟨by simpa using h3, by omega⟩
theorem Small.text {x : Item} (h : Small x) : x.text.length ≤ 65536 := by
  cases x with
  | mk b t l =>
    cases b with
    | false => exact Nat.le_trans (putText_ge t) h.2
    | true =>
      have h1 : wrong (.mk true t l) = false := h.1
      rw [wrong_eq] at h1
      have h2 : (!t.isEmpty || l.any wrong) = false := h1
      have h3 := (Bool.or_eq_false_iff.1 h2).1
      have : t = [] := by simpa using h3
      subst this
      simp [Item.text]
theorem decode_ok {s : List UInt8} {x : Item} (h : decode s = (x, 0)) : Small x := by
  have he := encode_ok (encode_decode h)
  exact ⟨he.2.1, by rw [← he.1]; exact he.2.2.2⟩
def NodeIs (N : Nat) : Prop := ∀ (x : Item) (v : Value) (w : World), x.size ≤ N → Small x → Reads w w.heap.size v x.list →
  Calls Tryz.prog 46 #[.agg #[.bool x.isList, .string ⟨x.text.toArray⟩, v]] w fun e w' => e = .returned (.bool (isNodeP x)) ∧ Below w.heap.size w w'
def RefIs (N : Nat) : Prop := ∀ (x : Item) (v : Value) (w : World), x.size ≤ N → Small x → Reads w w.heap.size v x.list →
  Calls Tryz.prog 80 #[.agg #[.bool x.isList, .string ⟨x.text.toArray⟩, v]] w fun e w' => e = .returned (.bool (isRefP x)) ∧ Below w.heap.size w w'
set_option maxRecDepth 100000 in
set_option maxHeartbeats 1600000 in
theorem isRef_of (N : Nat) (hN : NodeIs N) : RefIs N := by
  intro x v w hsz hsm hr
  obtain ⟨p, c, rfl⟩ := hr.form
  have htl := hsm.text
  have hlo := laid1 w (.cells #[.bool x.isList, .string ⟨x.text.toArray⟩, .slice p x.list.length c] 46)
  have H1 := Lib.hid (fun W (hb : Below w.heap.size w W) => hN x _ W hsz hsm (hr.below hb hb.size))
  have HLO := Lib.hid hlo
  have HRP := Lib.hid (isRefP_iff x)
  obtain ⟨rp, hrp⟩ : ∃ b, isRefP x = b := ⟨_, rfl⟩
  obtain ⟨np, hnp⟩ : ∃ b, isNodeP x = b := ⟨_, rfl⟩
  rw [hrp, hnp] at HRP
  rw [hnp] at H1
  rw [hrp]
  obtain ⟨isl, hisl⟩ : ∃ b, x.isList = b := ⟨_, rfl⟩
  obtain ⟨t, htt⟩ : ∃ t, x.text = t := ⟨_, rfl⟩
  rw [hisl, htt] at H1 HLO HRP
  rw [htt] at htl
  rw [hisl, htt]
  have hs : (⟨t.toArray⟩ : ByteArray).size = t.length := rfl
  obtain ⟨tl, htll⟩ : ∃ n, t.length = n := ⟨_, rfl⟩
  rw [htll] at hs htl HRP
  obtain ⟨m, hm⟩ : ∃ m, x.list.length = m := ⟨_, rfl⟩
  rw [hm] at H1 HLO ⊢
  clear hN hsz hsm hr hlo hrp hnp hisl htt htll hm
  cases isl with
  | true =>
    have hf : rp = np := by have h := HRP.out; simpa using h
    clear HRP
    subst hf
    go_enter Tryz.func80, Tryz.ntmps80
    go_wp2_with fail
    refine (H1.out _ HLO.out).mono ?_
    rintro e w1 ⟨rfl, hb1⟩
    have HB1 := Lib.hid (HLO.out.trans (hb1.mono HLO.out.size))
    clear hb1
    go_wp2
    go_ret
    exact ⟨rfl, HB1.out⟩
  | false =>
    by_cases h32 : tl = 32
    · have hf : rp = true := by have h := HRP.out; rw [decide_eq_true h32] at h; simpa using h
      clear HRP
      subst hf
      subst h32
      go_enter Tryz.func80, Tryz.ntmps80
      go_wp2_with fail
      go_ret
      exact ⟨rfl, HLO.out⟩
    · have hf : rp = np := by have h := HRP.out; rw [decide_eq_false h32] at h; simpa using h
      clear HRP
      subst hf
      have g1 : ((tl : Int) == 32) = false := by simp; omega
      have g2 : ¬ ((tl : Int) = 32) := by omega
      clear h32
      go_enter Tryz.func80, Tryz.ntmps80
      go_wp2_with fail
      refine (H1.out _ HLO.out).mono ?_
      rintro e w1 ⟨rfl, hb1⟩
      have HB1 := Lib.hid (HLO.out.trans (hb1.mono HLO.out.size))
      clear hb1
      go_wp2
      go_ret
      exact ⟨rfl, HB1.out⟩
theorem all_take {l : List Item} (h : l.length = 17) (g : Item → Bool) : ((List.range 16).all fun i => g (l.getD i .none)) = (l.take 16).all g := by
  rw [Bool.eq_iff_iff, List.all_eq_true, List.all_eq_true]
  constructor
  · intro h1 y hy
    obtain ⟨i, hi, rfl⟩ := List.mem_iff_getElem.1 hy
    have hi16 : i < 16 := by rw [List.length_take] at hi; omega
    have h2 := h1 i (List.mem_range.2 hi16)
    rw [List.getD_eq_getElem?_getD, List.getElem?_eq_getElem (by omega)] at h2
    rw [List.getElem_take]
    exact h2
  · intro h1 i hi
    have hi16 := List.mem_range.1 hi
    rw [List.getD_eq_getElem?_getD, List.getElem?_eq_getElem (by omega)]
    exact h1 _ (List.mem_of_getElem? (i := i) (by rw [List.getElem?_take, if_pos hi16, List.getElem?_eq_getElem (by omega)]; rfl))
theorem read_err (s : List UInt8) : (read s).2.2 = 0 ∨ ((read s).2.2 = 50 ∧ (read s).2.1 = false) := by
  unfold read
  split
  · split
    · exact .inr ⟨rfl, rfl⟩
    · split
      · exact .inl rfl
      · exact .inl rfl
  · exact .inr ⟨rfl, rfl⟩
theorem HasCells.grownI {W W' : World} {q : Nat} {cs : List Value} {t : TypeId} {row : Option Nat} (h : HasCells W q cs t) (hg : W.grownBy W' row) (hr : ∀ r, row = some r → ∃ o : Obj, W.heap[r]? = some o ∧ o.isCells = false) : HasCells W' q cs t :=
  h.kept (hg.block q h.lt (fun e => by
    obtain ⟨o, ho, hc⟩ := hr q e.symm
    rw [show W.heap[q]? = _ from h] at ho
    cases ho; cases hc))
theorem keepsFrom_below {B : Nat} {W W' : World} (h : Below W.heap.size W W') : KeepsFrom B W W' := ⟨h.size, fun k _ _ hk _ => (h.block k (Array.getElem?_eq_some_iff.1 hk).1).trans hk⟩
theorem grownBy_putObjP (W : World) (l : Nat) (o : Obj) : W.grownBy (W.putObj l o) (some l) := grownBy_putObj' W l o
theorem brOk_refs {l : List Item} (h : l.length = 17) : brOk l = ((refsOf (l.take 16)).all isRefP && !(l.getD 16 .none).isList) := by
  unfold brOk
  rw [all_take h (fun y => emptyI y || isRefP y)]
  congr 1
  unfold refsOf
  rw [Bool.eq_iff_iff, List.all_eq_true, List.all_eq_true]
  constructor
  · intro h1 y hy
    obtain ⟨h2, h3⟩ := List.mem_filter.1 hy
    have h4 := h1 y h2
    have h5 : emptyI y = false := by simpa using h3
    rw [h5] at h4
    simpa using h4
  · intro h1 y hy
    cases he : emptyI y with
    | true => rfl
    | false => exact h1 y (List.mem_filter.2 ⟨hy, by rw [he]; rfl⟩)
theorem results_bool {fn : Func} {p : Tmp} (h : fn.results = #[.cell p 4]) (tmps : Array Value) (w : World) (g : Nat) (b : Bool) (hp : tmps.getD p undef = .pointer (some ⟨g, 0, none⟩)) (h0 : w.cell? ⟨g, 0, none⟩ = some (.bool b)) :
    (results fn tmps).run Tryz.prog w = .ok (.bool b) w := by
  have hp' : tmps[p]?.getD undef = .pointer (some ⟨g, 0, none⟩) := by simpa using hp
  simp [results, go_sem, h, hp', h0]
set_option maxRecDepth 100000 in
set_option maxHeartbeats 6400000 in
theorem isNode_of (N : Nat) (hN : RefIs N) : NodeIs (N + 1) := by
  intro x v w hsz hsm hr
  obtain ⟨p, c, rfl⟩ := hr.form
  have hlo := laid2 w (.cells #[.bool x.isList, .string ⟨x.text.toArray⟩, .slice p x.list.length c] 46) (.cells #[.bool false] 4)
  have HC := Lib.hid (fun y (hy : y ∈ x.list) V W (hr : Reads W W.heap.size V y.list) => hN y V W (by have := (hsm.child hy).2; omega) (hsm.child hy).1 hr)
  have HSM := Lib.hid (fun y (hy : y ∈ x.list) => (hsm.child hy).1.text)
  have HLO := Lib.hid hlo
  have HNE := Lib.hid (isNodeP_eq x)
  have HRR := Lib.hid hr
  obtain ⟨np, hnp⟩ : ∃ b, isNodeP x = b := ⟨_, rfl⟩
  rw [hnp] at HNE ⊢
  obtain ⟨isl, hisl⟩ : ∃ b, x.isList = b := ⟨_, rfl⟩
  obtain ⟨t, htt⟩ : ∃ t, x.text = t := ⟨_, rfl⟩
  obtain ⟨m, hm⟩ : ∃ m, x.list.length = m := ⟨_, rfl⟩
  rw [hisl, hm] at HNE
  rw [hm] at HRR
  have HM := Lib.hid hm
  have hq0 := (HasCells.new w [.bool x.isList, .string ⟨x.text.toArray⟩, .slice p x.list.length c] 46).alloc (.cells #[.bool false] 4)
  have hz0 : HasCells ((w.alloc (.cells #[.bool x.isList, .string ⟨x.text.toArray⟩, .slice p x.list.length c] 46)).alloc (.cells #[.bool false] 4)) (w.heap.size + 1) [.bool false] 4 := by
    have h := HasCells.new (w.alloc (.cells #[.bool x.isList, .string ⟨x.text.toArray⟩, .slice p x.list.length c] 46)) [.bool false] 4
    rwa [World.size_alloc] at h
  obtain ⟨w0, hw0⟩ : ∃ W, (w.alloc (.cells #[.bool x.isList, .string ⟨x.text.toArray⟩, .slice p x.list.length c] 46)).alloc (.cells #[.bool false] 4) = W := ⟨_, rfl⟩
  rw [show (w.alloc (.cells ([.bool x.isList, .string ⟨x.text.toArray⟩, .slice p x.list.length c] : List Value).toArray 46)).alloc (.cells #[.bool false] 4) = w0 from hw0] at hq0
  rw [hw0] at hz0 HLO
  have hs0 : w0.heap.size = w.heap.size + 2 := by rw [← hw0]; simp
  rw [hisl, htt, hm] at hq0 ⊢
  have HW0 := Lib.hid (show (w.alloc (.cells #[.bool isl, .string ⟨t.toArray⟩, .slice p m c] 46)).alloc (.cells #[.bool false] 4) = w0 from by rw [← hisl, ← htt, ← hm]; exact hw0)
  have HQ0 := Lib.hid hq0
  have HZ0 := Lib.hid hz0
  have HS0 := Lib.hid hs0
  have c0 := hq0.cell (j := 0) rfl
  have c2 := hq0.cell (j := 2) rfl
  have r0 := hz0.cell (j := 0) rfl
  have rf := hz0.frozen 0
  clear hN hsz hsm hr hlo hnp hisl htt hm hw0 hs0 hq0 hz0
  have ENTER : ∀ {Q : Prop}, Q → Q := fun h => h
  cases isl with
  | false =>
    have hf : np = false := HNE.out
    subst hf
    clear HNE
    refine (callsIn_wide (n := 9)).1 ?_
    refine callsIn_of_wp_marks Tryz.func46 rfl trivial ?_ rfl
    simp only [Tryz.ntmps46, List.size_toArray, List.length_cons, List.length_nil, Nat.reduceAdd, Nat.reduceSub, Array.replicate_succ, Array.replicate_zero, List.push_toArray, List.append_toArray, List.nil_append, List.cons_append]
    gi_wp2_with (rw [HW0.out])
    refine ⟨_, results_bool rfl _ _ (w.heap.size + 1) false (by rfl) ((HZ0.out.set 0 (.bool false)).cell (j := 0) rfl), ?_⟩
    exact ⟨rfl, (HLO.out).setCell (p := ⟨w.heap.size + 1, 0, none⟩) (show w.heap.size ≤ w.heap.size + 1 by omega) _⟩
  | true =>
    by_cases h17 : m = 17
    · subst h17
      have hnb : np = brOk x.list := HNE.out.trans (by simp)
      have HNB := Lib.hid (hnb.trans (brOk_refs HM.out))
      clear hnb HNE
      have c1 := HQ0.out.cell (j := 1) rfl
      refine (callsIn_wide (n := 9)).1 ?_
      refine callsIn_of_wp_marks Tryz.func46 rfl trivial ?_ rfl
      simp only [Tryz.ntmps46, List.size_toArray, List.length_cons, List.length_nil, Nat.reduceAdd, Nat.reduceSub, Array.replicate_succ, Array.replicate_zero, List.push_toArray, List.append_toArray, List.nil_append, List.cons_append]
      gi_wp2_with (first | rw [HW0.out] | (refine ⟨trivial, ?_⟩; gi_at_call 79; refine (refs_any Fence.wide _ trivial rfl true ⟨t.toArray⟩ p 17 c _).mono ?_; rintro e w' ⟨rfl, rfl⟩))
      obtain ⟨W0, hW0⟩ : ∃ W, w0.alloc (.cells #[.bool true, .string ⟨t.toArray⟩, .slice p 17 c] 46) = W := ⟨_, rfl⟩
      have hb0 : Below w0.heap.size w0 W0 := by rw [← hW0]; exact laid1 w0 _
      have hbx : HasCells W0 w0.heap.size [.bool true, .string ⟨t.toArray⟩, .slice p 17 c] 46 := by rw [← hW0]; exact HasCells.new w0 _ _
      have hzs : W0.heap.size = w0.heap.size + 1 := by rw [← hW0]; simp
      have HR0 := Lib.hid (show Reads W0 w0.heap.size (.slice p 17 c) x.list from HRR.out.below (HLO.out.trans (hb0.mono HLO.out.size)) HLO.out.size)
      have hI0 : (∀ q ∈ ([] : List ElR), isRefP q.1 = true) ∧ HasCells W0 (w.heap.size + 1) [.bool false] 4 ∧ HasCells W0 w.heap.size [.bool true, .string ⟨t.toArray⟩, .slice p 17 c] 46 ∧ Below w.heap.size w W0 ∧ w0.heap.size + 1 ≤ W0.heap.size :=
        ⟨(fun q h => by cases h), HZ0.out.after hb0, HQ0.out.after hb0, HLO.out.trans (hb0.mono HLO.out.size), by omega⟩
      rw [hW0]
      have HBX := Lib.hid hbx
      clear hW0 hb0 hbx c0 c1 c2 r0 rf
      have hs1 : w.heap.size + 2 ≤ w0.heap.size := by have := HS0.out; omega
      have hzs2 : w0.heap.size + 1 ≤ W0.heap.size := by omega
      clear hzs
      have hms : ∀ y ∈ x.list.take 16, y ∈ x.list := fun y hy => List.mem_of_mem_take hy
      have HMS := Lib.hid hms
      clear hms
      refine wpIn_rangeFunc_X rfl (by omega) (gf := 103) (lb := #[.pointer (some ⟨w0.heap.size, 0, none⟩)]) rfl trivial (enters_of Tryz.func103 (by kernel_rfl) rfl)
        (encs := encR) (Step := StepP) (Good := GoodR (x.list.take 16) w0.heap.size) (Kp := KeepB (w0.heap.size + 1)) (S := fun xs => RelR (x.list.take 16) xs ∧ xs.map Prod.fst = refsOf (x.list.take 16)) (Sp := RelR (x.list.take 16)) (w0 := W0)
        (fun l J Jx W1 hW hJs _ hY h0 => refs_body _ (by omega) l w0.heap.size true ⟨t.toArray⟩ x.list p c HM.out J Jx hJs hY W1 (HBX.out.below hW (by omega)) (HR0.out.below (hW.mono (by omega)) (Nat.le_refl _)) h0)
        KeepB.trans (fun W1 l o o' hl _ _ _ => ⟨by simp, fun g hg => World.putObj_heap_other (by omega)⟩) (Below.refl _ _) (fun _ => rfl)
        (fun A B k o hst hk hA _ => (Below.block hst k (Array.getElem?_eq_some_iff.1 hA).1).trans hA)
        (fun pre W1 => (∀ q ∈ pre, isRefP q.1 = true) ∧ HasCells W1 (w.heap.size + 1) [.bool false] 4 ∧ HasCells W1 w.heap.size [.bool true, .string ⟨t.toArray⟩, .slice p 17 c] 46 ∧ Below w.heap.size w W1 ∧ w0.heap.size + 1 ≤ W1.heap.size)
        (fun cd pre W1 => cd = .ret ∧ (∃ q ∈ pre, isRefP q.1 = false) ∧ HasCells W1 (w.heap.size + 1) [.bool false] 4 ∧ Below w.heap.size w W1)
        (fun pre x1 a' W1 => ∃ xb u n1 c1, x1.2 = .slice u n1 c1 ∧ a' = { tmps := #[.agg #[.bool true, .string ⟨t.toArray⟩, .slice p 17 c], .pointer (some ⟨w.heap.size, 0, none⟩), .pointer (some ⟨w.heap.size + 1, 0, none⟩), .pointer (some ⟨xb, 0, none⟩), undef, undef, undef, .bool false, .pointer (some ⟨w.heap.size, 0, none⟩), .bool true, .bool false, .bool true, .pointer (some ⟨w.heap.size, 2, none⟩), .slice p 17 c, .int .i64 17, .bool true, .agg #[.bool true, .string ⟨t.toArray⟩, .slice p 17 c], .func (.func 103) #[] #[.pointer (some ⟨w0.heap.size, 0, none⟩)], .agg #[.bool x1.1.isList, .string ⟨x1.1.text.toArray⟩, .slice u n1 c1], undef, undef, undef, undef, undef, undef, undef, undef, undef, undef, undef, undef, undef, undef, undef, undef, undef, undef, undef, undef, undef, undef, undef, undef, undef, undef, undef, undef, undef, undef, undef, undef, undef, undef, undef, undef, undef, undef, undef, undef, undef, undef, undef, undef, undef, undef, undef, undef, undef, undef, undef, undef, undef, undef, undef, undef, undef, undef, undef, undef, undef, undef, undef], defers := [] } ∧ x1.1 ∈ x.list ∧ HasCells W1 xb [.bool x1.1.isList, .string ⟨x1.1.text.toArray⟩, .slice u n1 c1] 46 ∧ Reads W1 w0.heap.size x1.2 x1.1.list ∧
          ((∀ q ∈ pre, isRefP q.1 = true) ∧ HasCells W1 (w.heap.size + 1) [.bool false] 4 ∧ HasCells W1 w.heap.size [.bool true, .string ⟨t.toArray⟩, .slice p 17 c] 46 ∧ Below w.heap.size w W1 ∧ w0.heap.size + 1 ≤ W1.heap.size))
        ?own ?ownx1 ?ownx (fun pre A B ⟨h1, h2, h3, h4, h5⟩ hst => ⟨h1, h2.after hst, h3.after hst, h4.trans (Below.mono hst h4.size), Nat.le_trans h5 (Below.size hst)⟩) (fun cd pre A B ⟨h1, h2, h3, h4⟩ hst => ⟨h1, h2, h3.after hst, h4.trans (Below.mono hst h4.size)⟩) hI0 ?assign ?body ?done ?stop
      case own =>
        rintro pre W1 W2 row ⟨h1, h2, h3, h4, h5⟩ hg' hr
        have hr2 := fun r e => (hr r e).2
        exact ⟨h1, h2.grownI hg' hr2, h3.grownI hg' hr2, h4.grown hg' h4.size (fun r e => by have := (hr r e).1; omega), Nat.le_trans h5 hg'.size⟩
      case ownx1 =>
        rintro cd pre W1 W2 row ⟨h1, h2, h3, h4⟩ hg' hr
        have hr2 := fun r e => (hr r e).2
        exact ⟨h1, h2, h3.grownI hg' hr2, h4.grown hg' h4.size (fun r e => by have := (hr r e).1; omega)⟩
      case ownx =>
        rintro pre x1 a' _ W1 W2 row ⟨xb, u, n1, c1, e1, e2, e3, e4, e5, h1, h2, h3, h4, h5⟩ hg' hr
        have hr2 := fun r e => (hr r e).2
        exact ⟨xb, u, n1, c1, e1, e2, e3, e4.grownI hg' hr2, ReadsIn.grown e5 hg' (fun r e _ => hr2 r e) (fun _ h => h), h1, h2.grownI hg' hr2, h3.grownI hg' hr2, h4.grown hg' h4.size (fun r e => by have := (hr r e).1; omega), Nat.le_trans h5 hg'.size⟩
      case assign =>
        rintro l pre ⟨y, v⟩ Wa Wb K ⟨h1, h2, h3, h4, h5⟩ hst ⟨hym, -, ⟨u, n1, c1, hv⟩, hrd⟩ hK
        dsimp only at hym hv hrd
        subst hv
        have h2b := h2.after hst
        have h3b := h3.after hst
        have h4b := h4.trans (Below.mono hst h4.size)
        have h5b := Nat.le_trans h5 (Below.size hst)
        have HI := Lib.hid (And.intro h1 (And.intro h2b (And.intro h3b (And.intro h4b h5b))))
        have HKK := Lib.hid hK
        have HRD := Lib.hid hrd
        have HYM := Lib.hid hym
        clear h1 h2 h3 h4 h5 h2b h3b h4b hst hK hrd hym hI0
        simp only [encR]
        gi_wp2
        have hlo := laid1 Wb (.cells #[.bool y.isList, .string ⟨y.text.toArray⟩, .slice u n1 c1] 46)
        obtain ⟨i1, i2, i3, i4, i5⟩ := HI.out
        refine HKK.out _ _ ((KeepsOthers.alloc _ _).from _) (KeepB.below hlo h5b) ⟨Wb.heap.size, u, n1, c1, rfl, rfl, HMS.out y HYM.out, HasCells.new Wb _ _, HRD.out.below (hlo.mono (by omega)) (Nat.le_refl _), i1, i2.after hlo, i3.after hlo, i4.trans (hlo.mono i4.size), Nat.le_trans i5 hlo.size⟩
      case body =>
        rintro l pre ⟨y, v⟩ a' W1 hl ⟨r, hr⟩ ⟨xb, u, n1, c1, hv, rfl, hym, hxc, hrd, h1, h2, h3, h4, h5⟩
        dsimp only at hv hym hxc hrd
        subst hv
        have HRE := Lib.hid (HC.out y hym _ W1 (ReadsIn.mono hrd (fun g hg => Nat.lt_of_lt_of_le hg (by omega))))
        obtain ⟨ry, hry⟩ : ∃ b, isRefP y = b := ⟨_, rfl⟩
        rw [hry] at HRE
        have HRY := Lib.hid hry
        have x0 := hxc.cell (j := 0) rfl
        have x1 := hxc.cell (j := 1) rfl
        have x2 := hxc.cell (j := 2) rfl
        have H1 := Lib.hid h1
        have H2 := Lib.hid h2
        have H3 := Lib.hid h3
        have H4 := Lib.hid h4
        have H5 := Lib.hid h5
        clear hrd h1 h2 h3 h4 hry hxc hr hI0 hym
        dsimp only
        gi_wp2_with fail
        refine ⟨trivial, ?_⟩
        gi_at_call 80
        refine (callsIn_wide.2 HRE.out).mono ?_
        rintro e W2 ⟨rfl, hb2⟩
        have h2b := H2.out.after hb2
        have HB2 := Lib.hid hb2
        have H22 := Lib.hid h2b
        have r0 := h2b.cell (j := 0) rfl
        have rf := h2b.frozen 0
        clear hb2 h2b x0 x1 x2
        cases ry with
        | true =>
          gi_wp2
          refine ⟨keepsFrom_below HB2.out, KeepB.below HB2.out h5, (fun q hq => ?_), H22.out, H3.out.after HB2.out, H4.out.trans (HB2.out.mono H4.out.size), Nat.le_trans h5 HB2.out.size⟩
          rcases List.mem_append.1 hq with hq | hq
          · exact H1.out q hq
          · rw [List.mem_singleton] at hq
            rw [hq]
            exact HRY.out
        | false =>
          gi_wp2
          refine ⟨(keepsFrom_below HB2.out).trans ((KeepsOthers.setCell _ _ _).from _), rfl, ⟨_, List.mem_append_right _ (List.mem_singleton.2 rfl), HRY.out⟩, H22.out.set 0 _, (H4.out.trans (HB2.out.mono H4.out.size)).setCell (p := ⟨w.heap.size + 1, 0, none⟩) (show w.heap.size ≤ w.heap.size + 1 by omega) _⟩
      case done =>
        rintro D xs W1 hD ⟨hrel, hmap⟩ ⟨h1, h2, h3, h4, h5⟩ hK
        obtain ⟨-, g, o, hp, hg, hat⟩ := Reads.at HRR.out (by decide)
        subst hp
        have hall : (refsOf (x.list.take 16)).all isRefP = true := by
          rw [← hmap, List.all_eq_true]
          intro y hy
          obtain ⟨q, hq, rfl⟩ := List.mem_map.1 hy
          exact h1 q hq
        obtain ⟨y, hy⟩ : ∃ y, x.list[16]? = some y := ⟨_, List.getElem?_eq_getElem (by rw [HM.out]; omega)⟩
        have hf : np = !y.isList := by rw [HNB.out, hall, List.getD_eq_getElem?_getD, hy]; rfl
        have k16 := (h4.cell (p := ⟨g, o + 16 * 3, none⟩) hg).trans (hat 16 y hy).1
        obtain ⟨yl, hyl⟩ : ∃ b, y.isList = b := ⟨_, rfl⟩
        rw [hyl] at k16 hf
        subst hf
        have c2 := h3.cell (j := 2) rfl
        have r0 := h2.cell (j := 0) rfl
        have rf := h2.frozen 0
        have H2 := Lib.hid h2
        have H4 := Lib.hid h4
        have HKD := Lib.hid hK
        have hDw : w.heap.size + 1 < D := by omega
        clear hrel hmap h1 h2 h3 h4 h5 hK hat hy hyl hall hI0
        gi_wp2
        have hf2 := H2.out.set 0 (.bool (!yl))
        have hbf := H4.out.setCell (p := ⟨w.heap.size + 1, 0, none⟩) (show w.heap.size ≤ w.heap.size + 1 by omega) (.bool (!yl))
        obtain ⟨Wf, hWf⟩ : ∃ W', W1.setCell ⟨w.heap.size + 1, 0, none⟩ (.bool (!yl)) = W' := ⟨_, rfl⟩
        have hK' : Wf.heap[D]? = some (.deferred (some [])) := by
          rw [← hWf]
          exact (Below.heap_setCell _ ⟨w.heap.size + 1, 0, none⟩ _ D (show D ≠ w.heap.size + 1 by omega)).trans HKD.out
        rw [hWf] at hf2 hbf ⊢
        have hgr := grownBy_putObjP Wf D (.deferred none)
        have hrow : ∀ r, some D = some r → ∃ o : Obj, Wf.heap[r]? = some o ∧ o.isCells = false := fun r e => by cases e; exact ⟨_, hK', rfl⟩
        refine ⟨by simp, .inl ⟨_, _, rfl, run_takeDeferred hK', ?_⟩⟩
        refine ⟨_, results_bool rfl _ _ (w.heap.size + 1) (!yl) (by rfl) ((hf2.grownI hgr hrow).cell (j := 0) rfl), ?_⟩
        exact ⟨rfl, hbf.grown hgr hbf.size (fun r e => by cases e; omega)⟩
      case stop =>
        rintro D cd pre W1 hD hrel ⟨rfl, ⟨q, hq, hqf⟩, h2, h4⟩ hK
        have hf : np = false := by
          obtain ⟨q1, q2⟩ := hrel q hq
          have hall : (refsOf (x.list.take 16)).all isRefP = false := List.all_eq_false.2 ⟨q.1, List.mem_filter.2 ⟨q1, by rw [q2]; rfl⟩, by rw [hqf]; simp⟩
          rw [HNB.out, hall]
          rfl
        subst hf
        have H2 := Lib.hid h2
        have H4 := Lib.hid h4
        have HKD := Lib.hid hK
        have hDw : w.heap.size + 1 < D := by omega
        clear hrel hq hqf h2 h4 hK hI0
        gi_wp2
        have hgr := grownBy_putObjP W1 D (.deferred none)
        have hrow : ∀ r, some D = some r → ∃ o : Obj, W1.heap[r]? = some o ∧ o.isCells = false := fun r e => by cases e; exact ⟨_, HKD.out, rfl⟩
        refine ⟨by simp, .inl ⟨_, _, rfl, run_takeDeferred HKD.out, ?_⟩⟩
        refine ⟨_, results_bool rfl _ _ (w.heap.size + 1) false (by rfl) ((H2.out.grownI hgr hrow).cell (j := 0) rfl), ?_⟩
        exact ⟨rfl, H4.out.grown hgr H4.out.size (fun r e => by cases e; omega)⟩
    · have hn2 : np = (decide (m = 2) && twoOk x.list) := by have h := HNE.out; rw [if_neg h17, Bool.true_and] at h; exact h
      have g1 : ((m : Int) == 17) = false := by simp; omega
      have g2 : ¬ ((m : Int) = 17) := by omega
      clear HNE
      by_cases h2 : m = 2
      · subst h2
        rw [decide_eq_true rfl, Bool.true_and] at hn2
        obtain ⟨y0, y1, hxl⟩ : ∃ a b, x.list = [a, b] := by
          have h := HM.out
          match hl : x.list, h with
          | [a, b], _ => exact ⟨a, b, rfl⟩
        obtain ⟨-, g, o, rfl, hg, hat⟩ := Reads.at HRR.out (by decide)
        rw [hxl] at hat hn2
        obtain ⟨a00, a01, _⟩ := hat 0 y0 rfl
        obtain ⟨a10, a11, v1, a12, hv1⟩ := hat 1 y1 rfl
        obtain ⟨q1, n1, rfl⟩ := hv1.form
        simp only [Nat.zero_mul, Nat.one_mul, Nat.add_zero, Nat.add_assoc, Nat.reduceAdd] at a00 a01 a10 a11 a12
        have hy1m : y1 ∈ x.list := by rw [hxl]; simp
        have HRE := Lib.hid (fun V W (hr : Reads W W.heap.size V y1.list) => HC.out y1 hy1m V W hr)
        have HVB := Lib.hid (fun W (hb : Below w.heap.size w W) => (hv1.below hb hb.size : Reads W W.heap.size _ _))
        have h0l := HSM.out y0 (by rw [hxl]; simp)
        obtain ⟨y1t, hy1t⟩ : ∃ t, y1.text = t := ⟨_, rfl⟩
        obtain ⟨y0t, hy0t⟩ : ∃ t, y0.text = t := ⟨_, rfl⟩
        obtain ⟨y1l, hy1l⟩ : ∃ n, y1.list.length = n := ⟨_, rfl⟩
        rw [hy1t] at a11 HRE
        rw [hy1l] at a12 HVB
        rw [hy0t] at a01 h0l
        have hn3 : np = (!y0.isList && (decide ((read y0t).2.2 = 0) && (if (read y0t).2.1 then !y1.isList && !y1t.isEmpty else !(read y0t).1.isEmpty && isRefP y1))) := by rw [hn2, ← hy0t, ← hy1t]; rfl
        have hrd := read_any ⟨y0t.toArray⟩
        rw [show (⟨y0t.toArray⟩ : ByteArray).data.toList = y0t from rfl] at hrd
        have hre := read_err y0t
        obtain ⟨rp, lf, er, hrr⟩ : ∃ a b c, read y0t = (a, b, c) := ⟨_, _, _, rfl⟩
        rw [readV_of hrr] at hrd
        rw [hrr] at hn3 hre
        dsimp only at hn3 hre
        have H1 := Lib.hid (fun W => hrd W (by show y0t.length ≤ _; omega))
        have HCE := Lib.hid (fun W (hb : Below w.heap.size w W) => (show (W.cell? ⟨g, o, none⟩ = some (.bool y0.isList) ∧ W.cell? ⟨g, o + 1, none⟩ = some (.string ⟨y0t.toArray⟩)) ∧ W.cell? ⟨g, o + 3, none⟩ = some (.bool y1.isList) ∧ W.cell? ⟨g, o + 3 + 1, none⟩ = some (.string ⟨y1t.toArray⟩) ∧ W.cell? ⟨g, o + 3 + 2, none⟩ = some (.slice q1 y1l n1) from
          ⟨⟨(hb.cell (p := ⟨g, o, none⟩) hg).trans a00, (hb.cell (p := ⟨g, o + 1, none⟩) hg).trans a01⟩, (hb.cell (p := ⟨g, o + 3, none⟩) hg).trans a10, (hb.cell (p := ⟨g, o + 3 + 1, none⟩) hg).trans a11, (hb.cell (p := ⟨g, o + 3 + 2, none⟩) hg).trans a12⟩))
        obtain ⟨⟨k0, k1⟩, -⟩ := HCE.out _ HLO.out
        obtain ⟨l0, hl0⟩ : ∃ b, y0.isList = b := ⟨_, rfl⟩
        obtain ⟨l1, hl1⟩ : ∃ b, y1.isList = b := ⟨_, rfl⟩
        obtain ⟨rf1, hrf1⟩ : ∃ b, isRefP y1 = b := ⟨_, rfl⟩
        rw [hl0] at k0 hn3 HCE
        rw [hl1] at hn3 HRE HCE
        rw [hrf1] at hn3 HRE
        have HN3 := Lib.hid hn3
        clear a00 a01 a10 a11 a12 hat hxl hv1 hy1m h0l hy1t hy0t hy1l hn2 hn3 hrd hrr h17 hl0 hl1 hrf1 HSM HC
        cases l0 with
        | true =>
          have hf : np = false := HN3.out
          subst hf
          clear HN3 hre
          refine (callsIn_wide (n := 9)).1 ?_
          refine callsIn_of_wp_marks Tryz.func46 rfl trivial ?_ rfl
          simp only [Tryz.ntmps46, List.size_toArray, List.length_cons, List.length_nil, Nat.reduceAdd, Nat.reduceSub, Array.replicate_succ, Array.replicate_zero, List.push_toArray, List.append_toArray, List.nil_append, List.cons_append]
          gi_wp2_with (rw [HW0.out])
          refine ⟨_, results_bool rfl _ _ (w.heap.size + 1) false (by rfl) ((HZ0.out.set 0 (.bool false)).cell (j := 0) rfl), ?_⟩
          exact ⟨rfl, (HLO.out).setCell (p := ⟨w.heap.size + 1, 0, none⟩) (show w.heap.size ≤ w.heap.size + 1 by omega) _⟩
        | false =>
          rcases hre with rfl | ⟨rfl, rfl⟩
          · cases lf with
            | true =>
              cases l1 with
              | true =>
                have hf : np = false := HN3.out
                subst hf
                clear HN3
                refine (callsIn_wide (n := 9)).1 ?_
                refine callsIn_of_wp_marks Tryz.func46 rfl trivial ?_ rfl
                simp only [Tryz.ntmps46, List.size_toArray, List.length_cons, List.length_nil, Nat.reduceAdd, Nat.reduceSub, Array.replicate_succ, Array.replicate_zero, List.push_toArray, List.append_toArray, List.nil_append, List.cons_append]
                gi_wp2_with (rw [HW0.out])
                refine ⟨trivial, ?_⟩
                gi_at_call 47
                refine (callsIn_wide.2 (H1.out _)).mono ?_
                rintro e w1 ⟨rfl, hb1⟩
                have HB1 := Lib.hid (HLO.out.trans (hb1.mono HLO.out.size))
                have hz1 := HZ0.out.after hb1
                have hq1 := HQ0.out.after hb1
                have HZ1 := Lib.hid hz1
                obtain ⟨-, k3, k4, k5⟩ := HCE.out _ HB1.out
                clear c0 c2 r0 rf k0 k1
                have c2 := hq1.cell (j := 2) rfl
                have r0 := hz1.cell (j := 0) rfl
                have rf := hz1.frozen 0
                clear hz1 hq1 hb1
                gi_wp2_with fail
                refine ⟨_, results_bool rfl _ _ (w.heap.size + 1) false (by rfl) ((HZ1.out.set 0 (.bool false)).cell (j := 0) rfl), ?_⟩
                exact ⟨rfl, (HB1.out).setCell (p := ⟨w.heap.size + 1, 0, none⟩) (show w.heap.size ≤ w.heap.size + 1 by omega) _⟩
              | false =>
                by_cases hte : y1t = []
                · subst hte
                  have hf : np = false := HN3.out
                  subst hf
                  clear HN3
                  refine (callsIn_wide (n := 9)).1 ?_
                  refine callsIn_of_wp_marks Tryz.func46 rfl trivial ?_ rfl
                  simp only [Tryz.ntmps46, List.size_toArray, List.length_cons, List.length_nil, Nat.reduceAdd, Nat.reduceSub, Array.replicate_succ, Array.replicate_zero, List.push_toArray, List.append_toArray, List.nil_append, List.cons_append]
                  gi_wp2_with (rw [HW0.out])
                  refine ⟨trivial, ?_⟩
                  gi_at_call 47
                  refine (callsIn_wide.2 (H1.out _)).mono ?_
                  rintro e w1 ⟨rfl, hb1⟩
                  have HB1 := Lib.hid (HLO.out.trans (hb1.mono HLO.out.size))
                  have hz1 := HZ0.out.after hb1
                  have hq1 := HQ0.out.after hb1
                  have HZ1 := Lib.hid hz1
                  obtain ⟨-, k3, k4, k5⟩ := HCE.out _ HB1.out
                  clear c0 c2 r0 rf k0 k1
                  have c2 := hq1.cell (j := 2) rfl
                  have r0 := hz1.cell (j := 0) rfl
                  have rf := hz1.frozen 0
                  clear hz1 hq1 hb1
                  gi_wp2_with fail
                  refine ⟨_, results_bool rfl _ _ (w.heap.size + 1) false (by rfl) ((HZ1.out.set 0 (.bool false)).cell (j := 0) rfl), ?_⟩
                  exact ⟨rfl, (HB1.out).setCell (p := ⟨w.heap.size + 1, 0, none⟩) (show w.heap.size ≤ w.heap.size + 1 by omega) _⟩
                · have hf : np = true := by
                    rw [HN3.out]
                    cases y1t with
                    | nil => exact absurd rfl hte
                    | cons a r => rfl
                  subst hf
                  have q9 : (y1t == []) = false := beq_eq_false_iff_ne.2 hte
                  clear HN3 hte
                  refine (callsIn_wide (n := 9)).1 ?_
                  refine callsIn_of_wp_marks Tryz.func46 rfl trivial ?_ rfl
                  simp only [Tryz.ntmps46, List.size_toArray, List.length_cons, List.length_nil, Nat.reduceAdd, Nat.reduceSub, Array.replicate_succ, Array.replicate_zero, List.push_toArray, List.append_toArray, List.nil_append, List.cons_append]
                  gi_wp2_with (rw [HW0.out])
                  refine ⟨trivial, ?_⟩
                  gi_at_call 47
                  refine (callsIn_wide.2 (H1.out _)).mono ?_
                  rintro e w1 ⟨rfl, hb1⟩
                  have HB1 := Lib.hid (HLO.out.trans (hb1.mono HLO.out.size))
                  have hz1 := HZ0.out.after hb1
                  have hq1 := HQ0.out.after hb1
                  have HZ1 := Lib.hid hz1
                  obtain ⟨-, k3, k4, k5⟩ := HCE.out _ HB1.out
                  clear c0 c2 r0 rf k0 k1
                  have c2 := hq1.cell (j := 2) rfl
                  have r0 := hz1.cell (j := 0) rfl
                  have rf := hz1.frozen 0
                  clear hz1 hq1 hb1
                  gi_wp2_with fail
                  refine ⟨_, results_bool rfl _ _ (w.heap.size + 1) true (by rfl) ((HZ1.out.set 0 (.bool true)).cell (j := 0) rfl), ?_⟩
                  exact ⟨rfl, (HB1.out).setCell (p := ⟨w.heap.size + 1, 0, none⟩) (show w.heap.size ≤ w.heap.size + 1 by omega) _⟩
            | false =>
              by_cases hpe : rp = []
              · subst hpe
                have hf : np = false := HN3.out
                subst hf
                clear HN3
                refine (callsIn_wide (n := 9)).1 ?_
                refine callsIn_of_wp_marks Tryz.func46 rfl trivial ?_ rfl
                simp only [Tryz.ntmps46, List.size_toArray, List.length_cons, List.length_nil, Nat.reduceAdd, Nat.reduceSub, Array.replicate_succ, Array.replicate_zero, List.push_toArray, List.append_toArray, List.nil_append, List.cons_append]
                gi_wp2_with (rw [HW0.out])
                refine ⟨trivial, ?_⟩
                gi_at_call 47
                refine (callsIn_wide.2 (H1.out _)).mono ?_
                rintro e w1 ⟨rfl, hb1⟩
                have HB1 := Lib.hid (HLO.out.trans (hb1.mono HLO.out.size))
                have hz1 := HZ0.out.after hb1
                have hq1 := HQ0.out.after hb1
                have HZ1 := Lib.hid hz1
                obtain ⟨-, k3, k4, k5⟩ := HCE.out _ HB1.out
                clear c0 c2 r0 rf k0 k1
                have c2 := hq1.cell (j := 2) rfl
                have r0 := hz1.cell (j := 0) rfl
                have rf := hz1.frozen 0
                clear hz1 hq1 hb1
                gi_wp2_with fail
                refine ⟨trivial, ?_⟩
                gi_wp2_with fail
                refine ⟨_, results_bool rfl _ _ (w.heap.size + 1) false (by rfl) ((HZ1.out.set 0 (.bool false)).cell (j := 0) rfl), ?_⟩
                exact ⟨rfl, (HB1.out).setCell (p := ⟨w.heap.size + 1, 0, none⟩) (show w.heap.size ≤ w.heap.size + 1 by omega) _⟩
              · have hf : np = rf1 := by
                  rw [HN3.out]
                  cases rp with
                  | nil => exact absurd rfl hpe
                  | cons a r => rfl
                subst hf
                have q9 : (rp == []) = false := beq_eq_false_iff_ne.2 hpe
                clear HN3 hpe
                refine (callsIn_wide (n := 9)).1 ?_
                refine callsIn_of_wp_marks Tryz.func46 rfl trivial ?_ rfl
                simp only [Tryz.ntmps46, List.size_toArray, List.length_cons, List.length_nil, Nat.reduceAdd, Nat.reduceSub, Array.replicate_succ, Array.replicate_zero, List.push_toArray, List.append_toArray, List.nil_append, List.cons_append]
                gi_wp2_with (rw [HW0.out])
                refine ⟨trivial, ?_⟩
                gi_at_call 47
                refine (callsIn_wide.2 (H1.out _)).mono ?_
                rintro e w1 ⟨rfl, hb1⟩
                have HB1 := Lib.hid (HLO.out.trans (hb1.mono HLO.out.size))
                have hz1 := HZ0.out.after hb1
                have hq1 := HQ0.out.after hb1
                have HZ1 := Lib.hid hz1
                obtain ⟨-, k3, k4, k5⟩ := HCE.out _ HB1.out
                clear c0 c2 r0 rf k0 k1
                have c2 := hq1.cell (j := 2) rfl
                have r0 := hz1.cell (j := 0) rfl
                have rf := hz1.frozen 0
                clear hz1 hq1 hb1
                gi_wp2_with fail
                refine ⟨trivial, ?_⟩
                gi_at_call 80
                refine (callsIn_wide.2 (HRE.out _ _ (HVB.out _ HB1.out))).mono ?_
                rintro e w2 ⟨rfl, hb2⟩
                have HB2 := Lib.hid (HB1.out.trans (hb2.mono HB1.out.size))
                have hz2 := HZ1.out.after hb2
                have HZ2 := Lib.hid hz2
                clear r0 rf k3 k4 k5
                have r0 := hz2.cell (j := 0) rfl
                have rf := hz2.frozen 0
                clear hz2 hb2
                gi_wp2_with fail
                refine ⟨_, results_bool rfl _ _ (w.heap.size + 1) np (by rfl) ((HZ2.out.set 0 (.bool np)).cell (j := 0) rfl), ?_⟩
                exact ⟨rfl, (HB2.out).setCell (p := ⟨w.heap.size + 1, 0, none⟩) (show w.heap.size ≤ w.heap.size + 1 by omega) _⟩
          · have hf : np = false := by rw [HN3.out]; rfl
            subst hf
            clear HN3
            refine (callsIn_wide (n := 9)).1 ?_
            refine callsIn_of_wp_marks Tryz.func46 rfl trivial ?_ rfl
            simp only [Tryz.ntmps46, List.size_toArray, List.length_cons, List.length_nil, Nat.reduceAdd, Nat.reduceSub, Array.replicate_succ, Array.replicate_zero, List.push_toArray, List.append_toArray, List.nil_append, List.cons_append]
            gi_wp2_with (rw [HW0.out])
            refine ⟨trivial, ?_⟩
            gi_at_call 47
            refine (callsIn_wide.2 (H1.out _)).mono ?_
            rintro e w1 ⟨rfl, hb1⟩
            have HB1 := Lib.hid (HLO.out.trans (hb1.mono HLO.out.size))
            have hz1 := HZ0.out.after hb1
            have hq1 := HQ0.out.after hb1
            have HZ1 := Lib.hid hz1
            obtain ⟨-, k3, k4, k5⟩ := HCE.out _ HB1.out
            clear c0 c2 r0 rf k0 k1
            have c2 := hq1.cell (j := 2) rfl
            have r0 := hz1.cell (j := 0) rfl
            have rf := hz1.frozen 0
            clear hz1 hq1 hb1
            gi_wp2_with fail
            refine ⟨trivial, ?_⟩
            gi_wp2_with fail
            refine ⟨_, results_bool rfl _ _ (w.heap.size + 1) false (by rfl) ((HZ1.out.set 0 (.bool false)).cell (j := 0) rfl), ?_⟩
            exact ⟨rfl, (HB1.out).setCell (p := ⟨w.heap.size + 1, 0, none⟩) (show w.heap.size ≤ w.heap.size + 1 by omega) _⟩
      · have hf : np = false := by rw [hn2, decide_eq_false h2]; rfl
        subst hf
        have g3 : ((m : Int) == 2) = false := by simp; omega
        have g4 : ¬ ((m : Int) = 2) := by omega
        have g5 : ((m : Int) != 2) = true := by simp; omega
        clear hn2 h2 h17
        refine (callsIn_wide (n := 9)).1 ?_
        refine callsIn_of_wp_marks Tryz.func46 rfl trivial ?_ rfl
        simp only [Tryz.ntmps46, List.size_toArray, List.length_cons, List.length_nil, Nat.reduceAdd, Nat.reduceSub, Array.replicate_succ, Array.replicate_zero, List.push_toArray, List.append_toArray, List.nil_append, List.cons_append]
        gi_wp2_with (rw [HW0.out])
        refine ⟨_, results_bool rfl _ _ (w.heap.size + 1) false (by rfl) ((HZ0.out.set 0 (.bool false)).cell (j := 0) rfl), ?_⟩
        exact ⟨rfl, (HLO.out).setCell (p := ⟨w.heap.size + 1, 0, none⟩) (show w.heap.size ≤ w.heap.size + 1 by omega) _⟩
theorem nodeIs_all (N : Nat) : NodeIs N := by
  induction N with
  | zero => intro x v w hsz _ _; have := x.size_pos; omega
  | succ N ih => exact isNode_of N (isRef_of N ih)
theorem isNode_any (x : Item) (v : Value) (w : World) (hsm : Small x) (hr : Reads w w.heap.size v x.list) :
    Calls Tryz.prog 46 #[.agg #[.bool x.isList, .string ⟨x.text.toArray⟩, v]] w fun e w' => e = .returned (.bool (isNodeP x)) ∧ Below w.heap.size w w' := nodeIs_all x.size x v w (Nat.le_refl _) hsm hr
end Go.Proofs.YthicdhnjincflaaGreatDoor

namespace Go.Proofs.YthicdhnjincflaaGreatDoor
open Go.RowKit Go.Shelf Go.Lib
attribute [local go_sem] Oper.semAt_some
theorem KecT.belowP {w W : World} (h : KecT w) (hb : Below w.heap.size w W) : KecT W := by
  have key : ∀ g i v, w.cell? ⟨g, i, none⟩ = some v → W.cell? ⟨g, i, none⟩ = some v := fun g i v hc =>
    (World.cell?_of_block (hb.block g (World.block_lt_of_cell? w _ hc))).trans hc
  exact ⟨fun t ht => key _ _ _ (h.places t ht), fun t ht => key _ _ _ (h.turns t ht), fun t ht => key _ _ _ (h.consts t ht)⟩
def StrsB (B : Nat) (w : World) (v : Value) (xs : List ByteArray) : Prop :=
  ∃ p c, v = .slice p xs.length c ∧ xs.length ≤ c ∧ (xs = [] ∨ ∃ bk o, p = some ⟨bk, o, none⟩ ∧ bk < B ∧ ∀ (j : Nat) x, xs[j]? = some x → w.cell? ⟨bk, o + j, none⟩ = some (.string x))
theorem StrsB.below {B : Nat} {w w' : World} {v : Value} {xs : List ByteArray} (h : StrsB B w v xs) (hb : Below B w w') : StrsB B w' v xs := by
  obtain ⟨p, c, hv, hc, h⟩ := h
  refine ⟨p, c, hv, hc, ?_⟩
  rcases h with h | ⟨bk, o, hp, hk, h⟩
  · exact .inl h
  · exact .inr ⟨bk, o, hp, hk, fun j x hx => (hb.cell (p := ⟨bk, o + j, none⟩) hk).trans (h j x hx)⟩
theorem Strs.bound {w : World} {v : Value} {xs : List ByteArray} (h : Strs w v xs) : StrsB w.heap.size w v xs := h
theorem StrsB.at {B : Nat} {w : World} {p : Option Addr} {n c : Nat} {x : ByteArray} {xs : List ByteArray} (h : StrsB B w (.slice p n c) (x :: xs)) :
    ∃ bk o, p = some ⟨bk, o, none⟩ ∧ bk < B ∧ n = xs.length + 1 ∧ xs.length + 1 ≤ c ∧ w.cell? ⟨bk, o, none⟩ = some (.string x) ∧ ∀ (j : Nat) y, xs[j]? = some y → w.cell? ⟨bk, o + 1 + j, none⟩ = some (.string y) := by
  obtain ⟨p', c', hv, hc, h⟩ := h
  cases hv
  rcases h with h | ⟨bk, o, hp, hk, h⟩
  · cases h
  · refine ⟨bk, o, hp, hk, rfl, hc, h 0 x rfl, fun j y hy => ?_⟩
    have := h (j + 1) y hy
    rwa [show o + (j + 1) = o + 1 + j by omega] at this
def Upd (B wb : Nat) (w w' : World) : Prop := Below B w w' ∧ w.heap.size ≤ w'.heap.size ∧ ∀ g, g < w.heap.size → g ≠ wb → w'.heap[g]? = w.heap[g]?
theorem Upd.of_below {B wb : Nat} {w w' : World} (h : Below w.heap.size w w') (hB : B ≤ w.heap.size) : Upd B wb w w' := ⟨h.mono hB, h.size, fun g hg _ => h.block g hg⟩
theorem Upd.trans {B wb : Nat} {w w' w'' : World} (h : Upd B wb w w') (k : Upd B wb w' w'') : Upd B wb w w'' := ⟨h.1.trans k.1, Nat.le_trans h.2.1 k.2.1, fun g hg hne => (k.2.2 g (Nat.lt_of_lt_of_le hg h.2.1) hne).trans (h.2.2 g hg hne)⟩
theorem Upd.set {B wb : Nat} (w : World) (hB : B ≤ wb) (j : Nat) (v : Value) : Upd B wb w (w.setCell ⟨wb, j, none⟩ v) := ⟨(Below.refl _ _).setCell (p := ⟨wb, j, none⟩) hB v, by simp, fun g _ hne => Below.heap_setCell _ _ _ _ hne⟩
theorem ReadsIn.otherW {w : World} {A : Nat → Prop} {v : Value} {xs : List Item} (h : ReadsIn w A v xs) {q : Nat} {a b : ByteArray} {u : Value} {t : TypeId} (hq : HasCells w q [.string a, u, .string b] t) (hu : ∃ p n c, u = .slice p n c) : ReadsIn w (fun g => A g ∧ g ≠ q) v xs := by
  obtain ⟨k, h⟩ := h
  refine ⟨k, ?_⟩
  induction k generalizing v xs with
  | zero => exact h.elim
  | succ k ih =>
    obtain ⟨p, cap, hv, hl, h⟩ := h
    refine ⟨p, cap, hv, hl, ?_⟩
    rcases h with h | ⟨g, o, hp, hg, h⟩
    · exact .inl h
    · cases xs with
      | nil => exact .inl rfl
      | cons y r =>
        refine .inr ⟨g, o, hp, ⟨hg, fun e => ?_⟩, fun i x hx => ?_⟩
        · subst e
          obtain ⟨h1, _⟩ := h 0 y rfl
          have hb : w.heap[g]? = _ := hq
          rw [World.cell?, hb] at h1
          obtain ⟨p2, n2, c2, rfl⟩ := hu
          simp only [List.getElem?_toArray] at h1
          have h4 := List.mem_of_getElem? h1
          simp at h4
        · obtain ⟨h1, h2, v', h3, h4⟩ := h i x hx
          exact ⟨h1, h2, v', h3, ih h4⟩
theorem Reads.upd {B wb : Nat} {w w' : World} {v : Value} {xs : List Item} (h : Reads w w.heap.size v xs) (hu : Upd B wb w w') {a b : ByteArray} {u : Value} {t : TypeId} (hq : HasCells w wb [.string a, u, .string b] t) (hs : ∃ p n c, u = .slice p n c) : Reads w' w'.heap.size v xs :=
  ReadsIn.kept (h.otherW hq hs) (fun g _ o hg hc => (World.cell?_of_block (a := ⟨g, o, none⟩) (hu.2.2 g hg.1 hg.2)).trans hc) (fun _ hg => Nat.lt_of_lt_of_le hg.1 hu.2.1)
def RZ (z : Nat) (w : World) (v : Value) (xs : List Item) : Prop := ReadsIn w (fun g => g < w.heap.size ∧ g ≠ z) v xs
theorem RZ.reads {z : Nat} {w : World} {v : Value} {xs : List Item} (h : RZ z w v xs) : Reads w w.heap.size v xs := ReadsIn.mono h (fun _ hg => hg.1)
theorem RZ.below {z : Nat} {w w' : World} {v : Value} {xs : List Item} (h : RZ z w v xs) (hb : Below w.heap.size w w') : RZ z w' v xs :=
  ReadsIn.kept h (fun g _ o hg hc => (hb.cell (p := ⟨g, o, none⟩) hg.1).trans hc) (fun _ hg => ⟨Nat.lt_of_lt_of_le hg.1 hb.size, hg.2⟩)
theorem RZ.upd {B wb z : Nat} {w w' : World} {v : Value} {xs : List Item} (h : RZ z w v xs) (hu : Upd B wb w w') {a b : ByteArray} {u : Value} {t : TypeId} (hq : HasCells w wb [.string a, u, .string b] t) (hs : ∃ p n c, u = .slice p n c) : RZ z w' v xs :=
  ReadsIn.kept (ReadsIn.otherW h hq hs) (fun g _ o hg hc => (World.cell?_of_block (a := ⟨g, o, none⟩) (hu.2.2 g hg.1.1 hg.2)).trans hc) (fun _ hg => ⟨Nat.lt_of_lt_of_le hg.1.1 hu.2.1, hg.1.2⟩)
def NodeRes (B wb z : Nat) (path vl : ByteArray) (r : Option (Item × List (List UInt8))) (w : World) (e : Ending) (w' : World) : Prop :=
  Upd B wb w w' ∧ match r with
  | none => ∃ b s p n c, e = .returned (.tuple #[.agg #[.bool b, .string s, .slice p n c], .bool false])
  | some (x, rest) => ∃ xp xn xc q c, e = .returned (.tuple #[.agg #[.bool x.isList, .string ⟨x.text.toArray⟩, .slice xp xn xc], .bool true]) ∧ RZ z w' (.slice xp xn xc) x.list ∧ Small x ∧
      HasCells w' wb [.string path, .slice q rest.length c, .string vl] 56 ∧ StrsB B w' (.slice q rest.length c) (rest.map bt)
theorem nodeOf_list {ref : Item} (h : ref.isList = true) (proof : List (List UInt8)) : nodeOf keccakL ref proof = if isNodeP ref then some (ref, proof) else none := by
  unfold nodeOf openP
  rw [if_pos h]
theorem nodeOf_nil {ref : Item} (h : ref.isList = false) : nodeOf keccakL ref [] = none := by
  unfold nodeOf openP
  rw [if_neg (by rw [h]; simp)]
theorem nodeOf_cons {ref : Item} (h : ref.isList = false) (s : List UInt8) (rest : List (List UInt8)) : nodeOf keccakL ref (s :: rest) = if keccakL s = ref.text ∧ (decode s).2 = 0 then (if isNodeP (decode s).1 then some ((decode s).1, rest) else none) else none := by
  unfold nodeOf openP
  rw [if_neg (by rw [h]; simp)]
  dsimp only
  by_cases hc : keccakL s = ref.text ∧ (decode s).2 = 0
  · rw [if_pos hc, if_pos hc]
  · rw [if_neg hc, if_neg hc]
set_option maxRecDepth 100000 in
set_option maxHeartbeats 6400000 in
theorem walkNode_list (B wb z : Nat) (ref : Item) (p : Option Addr) (n c : Nat) (path vl : ByteArray) (proof : List (List UInt8)) (pp : Option Addr) (pc : Nat) (w : World) (hB : B ≤ w.heap.size) (_ : wb < w.heap.size) (hl : ref.isList = true) (hr : RZ z w (.slice p n c) ref.list) (hsm : Small ref)
    (hw : HasCells w wb [.string path, .slice pp proof.length pc, .string vl] 56) (hs : StrsB B w (.slice pp proof.length pc) (proof.map bt)) :
    Calls Tryz.prog 27 #[.pointer (some ⟨wb, 0, none⟩), .agg #[.bool ref.isList, .string ⟨ref.text.toArray⟩, .slice p n c]] w (NodeRes B wb z path vl (nodeOf keccakL ref proof) w) := by
  rw [nodeOf_list hl]
  have hlo := laid2 w (.cells #[.bool ref.isList, .string ⟨ref.text.toArray⟩, .slice p n c] 46) (.cells itemZ.toArray 46)
  have hq0 := (HasCells.new w [.bool ref.isList, .string ⟨ref.text.toArray⟩, .slice p n c] 46).alloc (.cells itemZ.toArray 46)
  have hz0 : HasCells ((w.alloc (.cells #[.bool ref.isList, .string ⟨ref.text.toArray⟩, .slice p n c] 46)).alloc (.cells itemZ.toArray 46)) (w.heap.size + 1) itemZ 46 := by
    have h := HasCells.new (w.alloc (.cells #[.bool ref.isList, .string ⟨ref.text.toArray⟩, .slice p n c] 46)) itemZ 46
    rwa [World.size_alloc] at h
  obtain ⟨w0, hw0⟩ : ∃ W, (w.alloc (.cells #[.bool ref.isList, .string ⟨ref.text.toArray⟩, .slice p n c] 46)).alloc (.cells itemZ.toArray 46) = W := ⟨_, rfl⟩
  rw [show (w.alloc (.cells ([.bool ref.isList, .string ⟨ref.text.toArray⟩, .slice p n c] : List Value).toArray 46)).alloc (.cells itemZ.toArray 46) = w0 from hw0] at hq0
  rw [hw0] at hz0 hlo
  have H1 := Lib.hid (fun W (hb : Below w.heap.size w W) => isNode_any ref _ W hsm (hr.below hb).reads)
  obtain ⟨np, hnp⟩ : ∃ b, isNodeP ref = b := ⟨_, rfl⟩
  obtain ⟨rr, hrr⟩ : ∃ r, (if isNodeP ref then some (ref, proof) else none) = r := ⟨_, rfl⟩
  rw [hrr]
  rw [hnp] at H1 hrr
  have HRR := Lib.hid hrr
  obtain ⟨t, htt⟩ : ∃ t, ref.text = t := ⟨_, rfl⟩
  have HW0 := Lib.hid (show (w.alloc (.cells #[.bool true, .string ⟨t.toArray⟩, .slice p n c] 46)).alloc (.cells #[.bool false, .string ⟨#[]⟩, .slice none 0 0] 46) = w0 from by rw [← htt, ← hl]; exact hw0)
  rw [hl, htt] at H1 hq0 ⊢
  have HL := Lib.hid hl
  have HTT := Lib.hid htt
  have HR := Lib.hid hr
  have HSM := Lib.hid hsm
  have HWC := Lib.hid hw
  have HSS := Lib.hid hs
  have HLO := Lib.hid hlo
  have HQ0 := Lib.hid hq0
  have HZ0 := Lib.hid hz0
  have HQF := Lib.hid (fun W (hb : Below w0.heap.size w0 W) => (show W.cell? ⟨w.heap.size, 0, none⟩ = some (.bool true) ∧ W.cell? ⟨w.heap.size, 1, none⟩ = some (.string ⟨t.toArray⟩) ∧ W.cell? ⟨w.heap.size, 2, none⟩ = some (.slice p n c) from
    ⟨(HQ0.out.after hb).cell (j := 0) rfl, (HQ0.out.after hb).cell (j := 1) rfl, (HQ0.out.after hb).cell (j := 2) rfl⟩))
  have c0 := HQ0.out.cell (j := 0) rfl
  clear hl hr hsm hw hs hlo hw0 hq0 hz0 hnp htt hrr
  go_enter Tryz.func27, Tryz.ntmps27
  go_wp2_with (rw [HW0.out])
  have b0 : Below w0.heap.size w0 w0.drew := (Below.refl _ _).drew
  refine wp_region_held_drew (S := (fun W => W.cell? ⟨w.heap.size, 0, none⟩ = some (.bool true) ∧ W.cell? ⟨w.heap.size, 1, none⟩ = some (.string ⟨t.toArray⟩) ∧ W.cell? ⟨w.heap.size, 2, none⟩ = some (.slice p n c))) (by kernel_rfl) (HQF.out _ b0) (fun hHeld => ?_)
  refine wpAnyH_take (i := 0) (v := ?_) rfl (by kernel_rfl) (by kernel_rfl) (by kernel_rfl) (fun _ _ _ h => h) (.inl ⟨by rfl, ?_⟩) (by assumption) ?_
  rotate_left 1
  · intro w0 hSw
    obtain ⟨z0, z1, z2⟩ := hSw
    go_simp <;> with_reducible rfl
  try simp only [Act.put, zq1, zq2, zq4, zq5, zq6]
  refine wpAnyH_take (i := 1) (v := ?_) rfl (by kernel_rfl) (by kernel_rfl) (by kernel_rfl) (fun _ _ _ h => h) (.inl ⟨by rfl, ?_⟩) (by assumption) ?_
  rotate_left 1
  · intro w0 hSw
    obtain ⟨z0, z1, z2⟩ := hSw
    go_simp <;> with_reducible rfl
  try simp only [Act.put, zq1, zq2, zq3, zq4, zq5, zq6]
  refine wpAnyH_ready (rs := [2]) (by kernel_rfl) (by simp) ?_
  refine AllReadyH.cons rfl (fun K hK => ?_) AllReadyH.nil
  go_simp
  go_at_call 46
  refine (H1.out _ (HLO.out.trans (b0.mono HLO.out.size))).mono ?_
  rintro e w1 ⟨rfl, hb1⟩
  have b1 := b0.trans (hb1.mono b0.size)
  have hz1 := HZ0.out.after b1
  have HZ1 := Lib.hid hz1
  have HB1 := Lib.hid (HLO.out.trans (b1.mono HLO.out.size))
  have e0 := hz1.cell (j := 0) rfl
  have e1 := hz1.cell (j := 1) rfl
  have e2 := hz1.cell (j := 2) rfl
  have f0 := hz1.frozen 0
  have f1 := hz1.frozen 1
  have f2 := hz1.frozen 2
  clear hz1 hb1
  refine hK.out _ _ (HQF.out _ b1) (fun hHeld => ?_)
  clear hK K
  try simp only [Act.put, zq1, zq2, zq3, zq4, zq5, zq6]
  refine wpAnyH_ready (rs := [3]) (by kernel_rfl) (by simp) ?_
  refine AllReadyH.cons rfl (fun K hK => ?_) AllReadyH.nil
  go_simp
  refine hK.out _ _ (⟨three_other hHeld.1 (by omega) _ _ _, three_other hHeld.2.1 (by omega) _ _ _, three_other hHeld.2.2 (by omega) _ _ _⟩) (fun hHeld => ?_)
  clear hK K
  try simp only [Act.put, zq1, zq2, zq3, zq4, zq5, zq6]
  refine wpAnyH_take (i := 4) (v := ?_) rfl (by kernel_rfl) (by kernel_rfl) (by kernel_rfl) (fun _ _ _ h => h) (.inl ⟨by rfl, ?_⟩) (by assumption) ?_
  rotate_left 1
  · intro w0 hSw
    go_simp <;> with_reducible rfl
  try simp only [Act.put, zq1, zq2, zq3, zq4, zq5, zq6]
  refine wpAnyH_done (by kernel_rfl) ?_ 0
  clear hHeld
  go_wp2_with fail
  have hf := ((HZ1.out.set 0 (.bool true)).set 1 (.string ⟨t.toArray⟩)).set 2 (.slice p n c)
  refine bodyPost_ret (results_cells2 rfl _ _ (w.heap.size + 1) [.bool true, .string ⟨t.toArray⟩, .slice p n c] _ (by rfl) hf.range Tryz.underlying46 rfl infoItemS) rfl ?_
  have hbf := ((HB1.out.setCell (p := ⟨w.heap.size + 1, 0, none⟩) (show w.heap.size ≤ w.heap.size + 1 by omega) (.bool true)).setCell (p := ⟨w.heap.size + 1, 1, none⟩) (show w.heap.size ≤ w.heap.size + 1 by omega) (.string ⟨t.toArray⟩)).setCell (p := ⟨w.heap.size + 1, 2, none⟩) (show w.heap.size ≤ w.heap.size + 1 by omega) (.slice p n c)
  refine ⟨Upd.of_below hbf hB, ?_⟩
  rw [← HRR.out]
  cases np with
  | false =>
    rw [if_neg (by simp)]
    exact ⟨true, _, p, n, c, by rfl⟩
  | true =>
    rw [if_pos rfl]
    exact ⟨p, n, c, pp, pc, by rw [HL.out, HTT.out]; rfl, HR.out.below hbf, HSM.out, HWC.out.after hbf, HSS.out.below (hbf.mono hB)⟩
end Go.Proofs.YthicdhnjincflaaGreatDoor
/- Contract of the walk's node at a reference that is a text. -/
namespace Go.Proofs.YthicdhnjincflaaGreatDoor
open Go.RowKit Go.Shelf Go.Lib
attribute [local go_sem] Oper.semAt_some
theorem kecOne_l {l k : List UInt8} (hk : keccakL l = k) (bk ob : Nat) (W : World) (hc : W.cell? ⟨bk, ob, none⟩ = some (.string ⟨l.toArray⟩)) (hlen : l.length ≤ 1099511627776) (hK : KecT W) : Calls Tryz.prog 19 #[.slice (some ⟨bk, ob, none⟩) 1 1] W fun e w' => e = .returned (.string ⟨k.toArray⟩) ∧ Below W.heap.size W w' := by
  subst hk
  have hl : lettersOf [(⟨l.toArray⟩ : ByteArray)] = l := by simp [lettersOf]
  have h := kecSum_any (.slice (some ⟨bk, ob, none⟩) 1 1) [⟨l.toArray⟩] W ⟨_, _, rfl, Nat.le_refl 1, .inr ⟨bk, ob, rfl, World.block_lt_of_cell? W _ hc, fun j x hx => by
    match j, hx with
    | 0, hx => cases hx; exact hc⟩⟩ (by simp) (by rw [hl]; exact hlen) hK
  rw [hl] at h
  exact h
set_option maxRecDepth 100000 in
set_option maxHeartbeats 6400000 in
theorem walkNode_nil (B wb z : Nat) (ref : Item) (p : Option Addr) (n c : Nat) (path vl : ByteArray) (pp : Option Addr) (pc : Nat) (w : World) (hB : B ≤ w.heap.size) (hl : ref.isList = false)
    (hw : HasCells w wb [.string path, .slice pp 0 pc, .string vl] 56) :
    Calls Tryz.prog 27 #[.pointer (some ⟨wb, 0, none⟩), .agg #[.bool ref.isList, .string ⟨ref.text.toArray⟩, .slice p n c]] w (NodeRes B wb z path vl (nodeOf keccakL ref []) w) := by
  rw [nodeOf_nil hl]
  have hlo := laid2 w (.cells #[.bool ref.isList, .string ⟨ref.text.toArray⟩, .slice p n c] 46) (.cells itemZ.toArray 46)
  have hq0 := (HasCells.new w [.bool ref.isList, .string ⟨ref.text.toArray⟩, .slice p n c] 46).alloc (.cells itemZ.toArray 46)
  have hz0 : HasCells ((w.alloc (.cells #[.bool ref.isList, .string ⟨ref.text.toArray⟩, .slice p n c] 46)).alloc (.cells itemZ.toArray 46)) (w.heap.size + 1) itemZ 46 := by
    have h := HasCells.new (w.alloc (.cells #[.bool ref.isList, .string ⟨ref.text.toArray⟩, .slice p n c] 46)) itemZ 46
    rwa [World.size_alloc] at h
  obtain ⟨w0, hw0⟩ : ∃ W, (w.alloc (.cells #[.bool ref.isList, .string ⟨ref.text.toArray⟩, .slice p n c] 46)).alloc (.cells itemZ.toArray 46) = W := ⟨_, rfl⟩
  have hsz0 : w0.heap.size = w.heap.size + 2 := by rw [← hw0]; simp
  rw [show (w.alloc (.cells ([.bool ref.isList, .string ⟨ref.text.toArray⟩, .slice p n c] : List Value).toArray 46)).alloc (.cells itemZ.toArray 46) = w0 from hw0] at hq0
  rw [hw0] at hz0 hlo
  have hw00 := hw.after hlo
  have hwb := hw.lt
  obtain ⟨t, htt⟩ : ∃ t, ref.text = t := ⟨_, rfl⟩
  have HW0 := Lib.hid (show (w.alloc (.cells #[.bool false, .string ⟨t.toArray⟩, .slice p n c] 46)).alloc (.cells #[.bool false, .string ⟨#[]⟩, .slice none 0 0] 46) = w0 from by have hw1 := hw0; rw [hl, htt] at hw1; exact hw1)
  rw [hl, htt] at hq0 ⊢
  have HL := Lib.hid hl
  have HTT := Lib.hid htt
  have HWC := Lib.hid hw
  have HWC0 := Lib.hid hw00
  have HLO := Lib.hid hlo
  have HQ0 := Lib.hid hq0
  have HZ0 := Lib.hid hz0
  have HSZ := Lib.hid hsz0
  have c0 := HQ0.out.cell (j := 0) rfl
  clear hl hw hlo hw0 hq0 hz0 htt hw00 hsz0
  have HQF := Lib.hid (fun W (hb : Below w0.heap.size w0 W) => (show W.cell? ⟨wb, 1, none⟩ = some (.slice pp 0 pc) from
    (HWC0.out.after hb).cell (j := 1) rfl))
  go_enter Tryz.func27, Tryz.ntmps27
  go_wp2_with (rw [HW0.out])
  have b0 : Below w0.heap.size w0 w0.drew := (Below.refl _ _).drew
  refine wp_region_held_drew (S := (fun W => W.cell? ⟨wb, 1, none⟩ = some (.slice pp 0 pc))) (by kernel_rfl) (HQF.out _ b0) (fun hHeld => ?_)
  refine wpAnyH_take (i := 0) (v := ?_) rfl (by kernel_rfl) (by kernel_rfl) (by kernel_rfl) (fun _ _ _ h => h) (.inl ⟨by rfl, ?_⟩) (by assumption) ?_
  rotate_left 1
  · intro w0 hSw
    go_simp <;> with_reducible rfl
  try simp only [Act.put, zq1, zq2, zq4, zq5, zq6]
  refine wpAnyH_take (i := 1) (v := ?_) rfl (by kernel_rfl) (by kernel_rfl) (by kernel_rfl) (fun _ _ _ h => h) (.inl ⟨by rfl, ?_⟩) (by assumption) ?_
  rotate_left 1
  · intro w0 hSw
    go_simp <;> with_reducible rfl
  try simp only [Act.put, zq1, zq2, zq3, zq4, zq5, zq6]
  refine wpAnyH_take (i := 2) (v := ?_) rfl (by kernel_rfl) (by kernel_rfl) (by kernel_rfl) (fun _ _ _ h => h) (.inl ⟨by rfl, ?_⟩) (by assumption) ?_
  rotate_left 1
  · intro w0 hSw
    go_simp <;> with_reducible rfl
  try simp only [Act.put, zq1, zq2, zq3, zq4, zq5, zq6]
  refine wpAnyH_take (i := 3) (v := ?_) rfl (by kernel_rfl) (by kernel_rfl) (by kernel_rfl) (fun _ _ _ h => h) (.inl ⟨by rfl, ?_⟩) (by assumption) ?_
  rotate_left 1
  · intro w0 hSw
    have z0 := hSw
    go_simp <;> with_reducible rfl
  try simp only [Act.put, zq1, zq2, zq3, zq4, zq5, zq6]
  refine wpAnyH_take (i := 4) (v := ?_) rfl (by kernel_rfl) (by kernel_rfl) (by kernel_rfl) (fun _ _ _ h => h) (.inl ⟨by rfl, ?_⟩) (by assumption) ?_
  rotate_left 1
  · intro w0 hSw
    go_simp <;> with_reducible rfl
  try simp only [Act.put, zq1, zq2, zq3, zq4, zq5, zq6]
  refine wpAnyH_take (i := 5) (v := ?_) rfl (by kernel_rfl) (by kernel_rfl) (by kernel_rfl) (fun _ _ _ h => h) (.inl ⟨by rfl, ?_⟩) (by assumption) ?_
  rotate_left 1
  · intro w0 hSw
    go_simp <;> with_reducible rfl
  try simp only [Act.put, zq1, zq2, zq3, zq4, zq5, zq6]
  refine wpAnyH_take (i := 6) (v := ?_) rfl (by kernel_rfl) (by kernel_rfl) (by kernel_rfl) (fun _ _ _ h => h) (.inl ⟨by rfl, ?_⟩) (by assumption) ?_
  rotate_left 1
  · intro w0 hSw
    go_simp <;> with_reducible rfl
  try simp only [Act.put, zq1, zq2, zq3, zq4, zq5, zq6]
  refine wpAnyH_take (i := 7) (v := undef) rfl (by kernel_rfl) (by kernel_rfl) (by kernel_rfl) (fun _ _ _ h => h) (.inr ⟨by rfl, rfl⟩) (by assumption) ?_
  try simp only [Act.put, zq1, zq2, zq3, zq4, zq5, zq6]
  refine wpAnyH_take (i := 8) (v := undef) rfl (by kernel_rfl) (by kernel_rfl) (by kernel_rfl) (fun _ _ _ h => h) (.inr ⟨by rfl, rfl⟩) (by assumption) ?_
  try simp only [Act.put, zq1, zq2, zq3, zq4, zq5, zq6]
  refine wpAnyH_take (i := 9) (v := undef) rfl (by kernel_rfl) (by kernel_rfl) (by kernel_rfl) (fun _ _ _ h => h) (.inr ⟨by rfl, rfl⟩) (by assumption) ?_
  try simp only [Act.put, zq1, zq2, zq3, zq4, zq5, zq6]
  refine wpAnyH_take (i := 10) (v := undef) rfl (by kernel_rfl) (by kernel_rfl) (by kernel_rfl) (fun _ _ _ h => h) (.inr ⟨by rfl, rfl⟩) (by assumption) ?_
  try simp only [Act.put, zq1, zq2, zq3, zq4, zq5, zq6]
  refine wpAnyH_take (i := 11) (v := undef) rfl (by kernel_rfl) (by kernel_rfl) (by kernel_rfl) (fun _ _ _ h => h) (.inr ⟨by rfl, rfl⟩) (by assumption) ?_
  try simp only [Act.put, zq1, zq2, zq3, zq4, zq5, zq6]
  refine wpAnyH_take (i := 12) (v := undef) rfl (by kernel_rfl) (by kernel_rfl) (by kernel_rfl) (fun _ _ _ h => h) (.inr ⟨by rfl, rfl⟩) (by assumption) ?_
  try simp only [Act.put, zq1, zq2, zq3, zq4, zq5, zq6]
  refine wpAnyH_take (i := 13) (v := undef) rfl (by kernel_rfl) (by kernel_rfl) (by kernel_rfl) (fun _ _ _ h => h) (.inr ⟨by rfl, rfl⟩) (by assumption) ?_
  try simp only [Act.put, zq1, zq2, zq3, zq4, zq5, zq6]
  refine wpAnyH_take (i := 14) (v := undef) rfl (by kernel_rfl) (by kernel_rfl) (by kernel_rfl) (fun _ _ _ h => h) (.inr ⟨by rfl, rfl⟩) (by assumption) ?_
  try simp only [Act.put, zq1, zq2, zq3, zq4, zq5, zq6]
  refine wpAnyH_take (i := 15) (v := undef) rfl (by kernel_rfl) (by kernel_rfl) (by kernel_rfl) (fun _ _ _ h => h) (.inr ⟨by rfl, rfl⟩) (by assumption) ?_
  try simp only [Act.put, zq1, zq2, zq3, zq4, zq5, zq6]
  refine wpAnyH_take (i := 16) (v := undef) rfl (by kernel_rfl) (by kernel_rfl) (by kernel_rfl) (fun _ _ _ h => h) (.inr ⟨by rfl, rfl⟩) (by assumption) ?_
  try simp only [Act.put, zq1, zq2, zq3, zq4, zq5, zq6]
  refine wpAnyH_take (i := 17) (v := undef) rfl (by kernel_rfl) (by kernel_rfl) (by kernel_rfl) (fun _ _ _ h => h) (.inr ⟨by rfl, rfl⟩) (by assumption) ?_
  try simp only [Act.put, zq1, zq2, zq3, zq4, zq5, zq6]
  refine wpAnyH_take (i := 18) (v := ?_) rfl (by kernel_rfl) (by kernel_rfl) (by kernel_rfl) (fun _ _ _ h => h) (.inl ⟨by rfl, ?_⟩) (by assumption) ?_
  rotate_left 1
  · intro w0 hSw
    go_simp <;> with_reducible rfl
  try simp only [Act.put, zq1, zq2, zq3, zq4, zq5, zq6]
  refine wpAnyH_done (by kernel_rfl) ?_ 0
  clear hHeld
  have f0 := HZ0.out.frozen 0
  have f1 := HZ0.out.frozen 1
  have f2 := HZ0.out.frozen 2
  have e0 := HZ0.out.cell (j := 0) rfl
  have e1 := HZ0.out.cell (j := 1) rfl
  have e2 := HZ0.out.cell (j := 2) rfl
  go_wp2_with fail
  have hf := ((HZ0.out.set 0 (.bool false)).set 1 (.string ⟨#[]⟩)).set 2 (.slice none 0 0)
  refine bodyPost_ret (results_cells2 rfl _ _ (w.heap.size + 1) [.bool false, .string ⟨#[]⟩, .slice none 0 0] _ (by rfl) (HasCells.kept hf rfl).range Tryz.underlying46 rfl infoItemS) rfl ?_
  have hbf := ((HLO.out.setCell (p := ⟨w.heap.size + 1, 0, none⟩) (show w.heap.size ≤ w.heap.size + 1 by omega) (.bool false)).setCell (p := ⟨w.heap.size + 1, 1, none⟩) (show w.heap.size ≤ w.heap.size + 1 by omega) (.string ⟨#[]⟩)).setCell (p := ⟨w.heap.size + 1, 2, none⟩) (show w.heap.size ≤ w.heap.size + 1 by omega) (.slice none 0 0)
  exact ⟨Upd.of_below hbf.drew hB, false, _, _, _, _, by rfl⟩
set_option maxRecDepth 100000 in
set_option maxHeartbeats 6400000 in
theorem walkNode_cons (B wb z : Nat) (ref : Item) (p : Option Addr) (n c : Nat) (path vl : ByteArray) (s : List UInt8) (rest : List (List UInt8)) (pp : Option Addr) (pc : Nat) (w : World) (hB : B ≤ w.heap.size) (hBw : B ≤ wb) (hz : z < w.heap.size) (hl : ref.isList = false) (hlen : s.length ≤ 1099511627776) (hlp : rest.length ≤ 1099511627776)
    (hw : HasCells w wb [.string path, .slice pp (rest.length + 1) pc, .string vl] 56) (hs : StrsB B w (.slice pp (rest.length + 1) pc) (bt s :: rest.map bt)) (hK : ∀ W, Below B w W → KecT W) :
    Calls Tryz.prog 27 #[.pointer (some ⟨wb, 0, none⟩), .agg #[.bool ref.isList, .string ⟨ref.text.toArray⟩, .slice p n c]] w (NodeRes B wb z path vl (nodeOf keccakL ref (s :: rest)) w) := by
  obtain ⟨bk, ob, rfl, hbk, -, hpc, hs0, hss⟩ := hs.at
  have hs0 : w.cell? ⟨bk, ob, none⟩ = some (.string ⟨s.toArray⟩) := hs0
  rw [List.length_map] at hpc
  obtain ⟨k, hk⟩ : ∃ k, keccakL s = k := ⟨_, rfl⟩
  obtain ⟨rr, hrr⟩ : ∃ r, nodeOf keccakL ref (s :: rest) = r := ⟨_, rfl⟩
  rw [hrr]
  rw [nodeOf_cons hl, hk] at hrr
  have HRR := Lib.hid hrr
  have HKS := Lib.hid hk
  have HKT := Lib.hid hK
  have HSS := Lib.hid hss
  have HS0 := Lib.hid hs0
  clear hrr hs hss hs0 hk hK
  have hlo := laid2 w (.cells #[.bool ref.isList, .string ⟨ref.text.toArray⟩, .slice p n c] 46) (.cells itemZ.toArray 46)
  have hq0 := (HasCells.new w [.bool ref.isList, .string ⟨ref.text.toArray⟩, .slice p n c] 46).alloc (.cells itemZ.toArray 46)
  have hz0 : HasCells ((w.alloc (.cells #[.bool ref.isList, .string ⟨ref.text.toArray⟩, .slice p n c] 46)).alloc (.cells itemZ.toArray 46)) (w.heap.size + 1) itemZ 46 := by
    have h := HasCells.new (w.alloc (.cells #[.bool ref.isList, .string ⟨ref.text.toArray⟩, .slice p n c] 46)) itemZ 46
    rwa [World.size_alloc] at h
  obtain ⟨w0, hw0⟩ : ∃ W, (w.alloc (.cells #[.bool ref.isList, .string ⟨ref.text.toArray⟩, .slice p n c] 46)).alloc (.cells itemZ.toArray 46) = W := ⟨_, rfl⟩
  have hsz0 : w0.heap.size = w.heap.size + 2 := by rw [← hw0]; simp
  rw [show (w.alloc (.cells ([.bool ref.isList, .string ⟨ref.text.toArray⟩, .slice p n c] : List Value).toArray 46)).alloc (.cells itemZ.toArray 46) = w0 from hw0] at hq0
  rw [hw0] at hz0 hlo
  have hw00 := hw.after hlo
  have hwb := hw.lt
  obtain ⟨t, htt⟩ : ∃ t, ref.text = t := ⟨_, rfl⟩
  have HW0 := Lib.hid (show (w.alloc (.cells #[.bool false, .string ⟨t.toArray⟩, .slice p n c] 46)).alloc (.cells #[.bool false, .string ⟨#[]⟩, .slice none 0 0] 46) = w0 from by have hw1 := hw0; rw [hl, htt] at hw1; exact hw1)
  rw [hl, htt] at hq0 ⊢
  have HL := Lib.hid hl
  have HTT := Lib.hid htt
  have HWC := Lib.hid hw
  have HWC0 := Lib.hid hw00
  have HLO := Lib.hid hlo
  have HQ0 := Lib.hid hq0
  have HZ0 := Lib.hid hz0
  have HSZ := Lib.hid hsz0
  have c0 := HQ0.out.cell (j := 0) rfl
  clear hl hw hlo hw0 hq0 hz0 htt hw00 hsz0
  have HQF := Lib.hid (fun W (hb : Below w0.heap.size w0 W) => (show W.cell? ⟨wb, 1, none⟩ = some (.slice (some ⟨bk, ob, none⟩) (rest.length + 1) pc) ∧ W.cell? ⟨w.heap.size, 1, none⟩ = some (.string ⟨t.toArray⟩) ∧ W.cell? ⟨bk, ob, none⟩ = some (.string ⟨s.toArray⟩) from
    ⟨(HWC0.out.after hb).cell (j := 1) rfl, (HQ0.out.after hb).cell (j := 1) rfl, (hb.cell (p := ⟨bk, ob, none⟩) (Nat.lt_of_lt_of_le hbk (Nat.le_trans hB HLO.out.size))).trans ((HLO.out.cell (p := ⟨bk, ob, none⟩) (Nat.lt_of_lt_of_le hbk hB)).trans HS0.out)⟩))
  have hnz : ((rest.length : Int) + 1 == 0) = false := by
    rw [beq_eq_false_iff_ne]
    omega
  go_enter Tryz.func27, Tryz.ntmps27
  go_wp2_with (rw [HW0.out])
  have b0 : Below w0.heap.size w0 w0.drew := (Below.refl _ _).drew
  refine wp_region_held_drew (S := (fun W => W.cell? ⟨wb, 1, none⟩ = some (.slice (some ⟨bk, ob, none⟩) (rest.length + 1) pc) ∧ W.cell? ⟨w.heap.size, 1, none⟩ = some (.string ⟨t.toArray⟩) ∧ W.cell? ⟨bk, ob, none⟩ = some (.string ⟨s.toArray⟩))) (by kernel_rfl) (HQF.out _ b0) (fun hHeld => ?_)
  refine wpAnyH_take (i := 0) (v := ?_) rfl (by kernel_rfl) (by kernel_rfl) (by kernel_rfl) (fun _ _ _ h => h) (.inl ⟨by rfl, ?_⟩) (by assumption) ?_
  rotate_left 1
  · intro w0 hSw
    go_simp <;> with_reducible rfl
  try simp only [Act.put, zq1, zq2, zq4, zq5, zq6]
  refine wpAnyH_take (i := 1) (v := ?_) rfl (by kernel_rfl) (by kernel_rfl) (by kernel_rfl) (fun _ _ _ h => h) (.inl ⟨by rfl, ?_⟩) (by assumption) ?_
  rotate_left 1
  · intro w0 hSw
    go_simp <;> with_reducible rfl
  try simp only [Act.put, zq1, zq2, zq3, zq4, zq5, zq6]
  refine wpAnyH_take (i := 2) (v := ?_) rfl (by kernel_rfl) (by kernel_rfl) (by kernel_rfl) (fun _ _ _ h => h) (.inl ⟨by rfl, ?_⟩) (by assumption) ?_
  rotate_left 1
  · intro w0 hSw
    go_simp <;> with_reducible rfl
  try simp only [Act.put, zq1, zq2, zq3, zq4, zq5, zq6]
  refine wpAnyH_take (i := 3) (v := ?_) rfl (by kernel_rfl) (by kernel_rfl) (by kernel_rfl) (fun _ _ _ h => h) (.inl ⟨by rfl, ?_⟩) (by assumption) ?_
  rotate_left 1
  · intro w0 hSw
    obtain ⟨z0, z1, z2⟩ := hSw
    go_simp <;> with_reducible rfl
  try simp only [Act.put, zq1, zq2, zq3, zq4, zq5, zq6]
  refine wpAnyH_take (i := 4) (v := ?_) rfl (by kernel_rfl) (by kernel_rfl) (by kernel_rfl) (fun _ _ _ h => h) (.inl ⟨by rfl, ?_⟩) (by assumption) ?_
  rotate_left 1
  · intro w0 hSw
    go_simp <;> with_reducible rfl
  try simp only [Act.put, zq1, zq2, zq3, zq4, zq5, zq6]
  refine wpAnyH_take (i := 5) (v := ?_) rfl (by kernel_rfl) (by kernel_rfl) (by kernel_rfl) (fun _ _ _ h => h) (.inl ⟨by rfl, ?_⟩) (by assumption) ?_
  rotate_left 1
  · intro w0 hSw
    go_simp <;> with_reducible rfl
  try simp only [Act.put, zq1, zq2, zq3, zq4, zq5, zq6]
  refine wpAnyH_take (i := 6) (v := ?_) rfl (by kernel_rfl) (by kernel_rfl) (by kernel_rfl) (fun _ _ _ h => h) (.inl ⟨by rfl, ?_⟩) (by assumption) ?_
  rotate_left 1
  · intro w0 hSw
    go_simp <;> with_reducible rfl
  try simp only [Act.put, zq1, zq2, zq3, zq4, zq5, zq6]
  refine wpAnyH_take (i := 7) (v := ?_) rfl (by kernel_rfl) (by kernel_rfl) (by kernel_rfl) (fun _ _ _ h => h) (.inl ⟨by rfl, ?_⟩) (by assumption) ?_
  rotate_left 1
  · intro w0 hSw
    go_simp <;> with_reducible rfl
  try simp only [Act.put, zq1, zq2, zq3, zq4, zq5, zq6]
  refine wpAnyH_take (i := 8) (v := ?_) rfl (by kernel_rfl) (by kernel_rfl) (by kernel_rfl) (fun _ _ _ h => h) (.inl ⟨by rfl, ?_⟩) (by assumption) ?_
  rotate_left 1
  · intro w0 hSw
    go_simp <;> with_reducible rfl
  try simp only [Act.put, zq1, zq2, zq3, zq4, zq5, zq6]
  refine wpAnyH_take (i := 9) (v := ?_) rfl (by kernel_rfl) (by kernel_rfl) (by kernel_rfl) (fun _ _ _ h => h) (.inl ⟨by rfl, ?_⟩) (by assumption) ?_
  rotate_left 1
  · intro w0 hSw
    go_simp <;> with_reducible rfl
  try simp only [Act.put, zq1, zq2, zq3, zq4, zq5, zq6]
  refine wpAnyH_take (i := 10) (v := ?_) rfl (by kernel_rfl) (by kernel_rfl) (by kernel_rfl) (fun _ _ _ h => h) (.inl ⟨by rfl, ?_⟩) (by assumption) ?_
  rotate_left 1
  · intro w0 hSw
    obtain ⟨z0, z1, z2⟩ := hSw
    go_simp <;> with_reducible rfl
  try simp only [Act.put, zq1, zq2, zq3, zq4, zq5, zq6]
  refine wpAnyH_take (i := 11) (v := ?_) rfl (by kernel_rfl) (by kernel_rfl) (by kernel_rfl) (fun _ _ _ h => h) (.inl ⟨by rfl, ?_⟩) (by assumption) ?_
  rotate_left 1
  · intro w0 hSw
    go_simp <;> with_reducible rfl
  try simp only [Act.put, zq1, zq2, zq3, zq4, zq5, zq6]
  refine wpAnyH_take (i := 12) (v := ?_) rfl (by kernel_rfl) (by kernel_rfl) (by kernel_rfl) (fun _ _ _ h => h) (.inl ⟨by rfl, ?_⟩) (by assumption) ?_
  rotate_left 1
  · intro w0 hSw
    obtain ⟨z0, z1, z2⟩ := hSw
    go_simp <;> with_reducible rfl
  try simp only [Act.put, zq1, zq2, zq3, zq4, zq5, zq6]
  refine wpAnyH_take (i := 15) (v := ?_) rfl (by kernel_rfl) (by kernel_rfl) (by kernel_rfl) (fun _ _ _ h => h) (.inl ⟨by rfl, ?_⟩) (by assumption) ?_
  rotate_left 1
  · intro w0 hSw
    go_simp <;> with_reducible rfl
  try simp only [Act.put, zq1, zq2, zq3, zq4, zq5, zq6]
  refine wpAnyH_take (i := 16) (v := ?_) rfl (by kernel_rfl) (by kernel_rfl) (by kernel_rfl) (fun _ _ _ h => h) (.inl ⟨by rfl, ?_⟩) (by assumption) ?_
  rotate_left 1
  · intro w0 hSw
    obtain ⟨z0, z1, z2⟩ := hSw
    go_simp <;> with_reducible rfl
  try simp only [Act.put, zq1, zq2, zq3, zq4, zq5, zq6]
  refine wpAnyH_ready (rs := [13]) (by kernel_rfl) (by simp) ?_
  refine AllReadyH.cons rfl (fun K hK => ?_) AllReadyH.nil
  go_simp
  have b1 := (laid1 w0 (.cells #[.string ⟨s.toArray⟩] 9)).drew
  have q1 : (w0.alloc (.cells #[.string ⟨s.toArray⟩] 9)).drew.cell? ⟨w0.heap.size, 0, none⟩ = some (.string ⟨s.toArray⟩) := by simp
  obtain ⟨w1, hw1⟩ : ∃ W, (w0.alloc (.cells #[.string ⟨s.toArray⟩] 9)).drew = W := ⟨_, rfl⟩
  rw [hw1] at b1 q1 ⊢
  have HW1 := Lib.hid hw1
  have hsz1 : w1.heap.size = w0.heap.size + 1 := by rw [← hw1]; simp
  have HS1 := Lib.hid hsz1
  clear hsz1 hw1
  refine hK.out _ _ (HQF.out _ b1) (fun hHeld => ?_)
  clear hK K
  try simp only [Act.put, zq1, zq2, zq3, zq4, zq5, zq6]
  refine wpAnyH_ready (rs := [14]) (by kernel_rfl) (by simp) ?_
  refine AllReadyH.cons rfl (fun K hK => ?_) AllReadyH.nil
  go_simp
  go_at_call 19
  refine (kecOne_l HKS.out w0.heap.size 0 _ q1 hlen (HKT.out _ ((HLO.out.mono hB).trans (b1.mono (Nat.le_trans hB HLO.out.size))))).mono ?_
  rintro e w2 ⟨rfl, hb2⟩
  have b2 := b1.trans (hb2.mono b1.size)
  refine hK.out _ _ (HQF.out _ b2) (fun hHeld => ?_)
  clear hK K
  try simp only [Act.put, zq1, zq2, zq3, zq4, zq5, zq6]
  refine wpAnyH_take (i := 17) (v := ?_) rfl (by kernel_rfl) (by kernel_rfl) (by kernel_rfl) (fun _ _ _ h => h) (.inl ⟨by rfl, ?_⟩) (by assumption) ?_
  rotate_left 1
  · intro w0 hSw
    go_simp <;> with_reducible rfl
  try simp only [Act.put, zq1, zq2, zq3, zq4, zq5, zq6]
  refine wpAnyH_take (i := 18) (v := ?_) rfl (by kernel_rfl) (by kernel_rfl) (by kernel_rfl) (fun _ _ _ h => h) (.inl ⟨by rfl, ?_⟩) (by assumption) ?_
  rotate_left 1
  · intro w0 hSw
    go_simp <;> with_reducible rfl
  try simp only [Act.put, zq1, zq2, zq3, zq4, zq5, zq6]
  refine wpAnyH_done (by kernel_rfl) ?_ 0
  clear hHeld
  obtain ⟨eq, heq⟩ : ∃ b, (k == t) = b := ⟨_, rfl⟩
  rw [heq]
  have HEQ := Lib.hid heq
  have HB2 := Lib.hid b2
  have HZ2 := Lib.hid (HZ0.out.after b2)
  have HQ2 := Lib.hid (HQ0.out.after b2)
  have HW2 := Lib.hid (HWC0.out.after b2)
  have HS2 := Lib.hid ((b2.cell (p := ⟨bk, ob, none⟩) (Nat.lt_of_lt_of_le hbk (Nat.le_trans hB HLO.out.size))).trans ((HLO.out.cell (p := ⟨bk, ob, none⟩) (Nat.lt_of_lt_of_le hbk hB)).trans HS0.out))
  have hz2 : w.heap.size + 2 ≤ w2.heap.size := by have := b2.size; have := HSZ.out; omega
  have HSZ2 := Lib.hid hz2
  clear heq b1 b2 hb2 q1 HQF HS1 HW1 hz2
  cases eq with
  | false =>
    have f0 := HZ2.out.frozen 0
    have f1 := HZ2.out.frozen 1
    have f2 := HZ2.out.frozen 2
    have e0 := HZ2.out.cell (j := 0) rfl
    have e1 := HZ2.out.cell (j := 1) rfl
    have e2 := HZ2.out.cell (j := 2) rfl
    go_wp2_with fail
    have hf := ((HZ2.out.set 0 (.bool false)).set 1 (.string ⟨#[]⟩)).set 2 (.slice none 0 0)
    refine bodyPost_ret (results_cells2 rfl _ _ (w.heap.size + 1) [.bool false, .string ⟨#[]⟩, .slice none 0 0] _ (by rfl) (HasCells.kept hf rfl).range Tryz.underlying46 rfl infoItemS) rfl ?_
    have hbf := ((Below.setCell (HLO.out.trans (HB2.out.mono HLO.out.size)) (p := ⟨w.heap.size + 1, 0, none⟩) (show w.heap.size ≤ w.heap.size + 1 by omega) (.bool false)).setCell (p := ⟨w.heap.size + 1, 1, none⟩) (show w.heap.size ≤ w.heap.size + 1 by omega) (.string ⟨#[]⟩)).setCell (p := ⟨w.heap.size + 1, 2, none⟩) (show w.heap.size ≤ w.heap.size + 1 by omega) (.slice none 0 0)
    have hrr : rr = none := by
      rw [← HRR.out, if_neg]
      rintro ⟨h1, -⟩
      have h2 := HEQ.out
      rw [h1, HTT.out] at h2
      simp at h2
    rw [hrr]
    exact ⟨Upd.of_below hbf hB, false, _, _, _, _, by rfl⟩
  | true =>
    have z0 := HW2.out.cell (j := 1) rfl
    have z1 := HS2.out
    go_wp2_with fail
    refine (decodeNew_any s _ hlen).mono ?_
    rintro e w3 ⟨hb3, x, ce, xp, xc, rfl, hdec, hrd⟩
    have HW3 := Lib.hid (HW2.out.after hb3)
    have HQ3 := Lib.hid (HQ2.out.after hb3)
    have HZ3 := Lib.hid (HZ2.out.after hb3)
    have HSZ3 := Lib.hid (Nat.le_trans HSZ2.out hb3.size)
    have HRD : Hid (RIn w3 w2.heap.size (.slice xp x.list.length xc) x.list) := hrd
    have HL3 := Lib.hid (HLO.out.trans ((HB2.out.trans (hb3.mono HB2.out.size)).mono HLO.out.size))
    obtain ⟨E, hE⟩ : ∃ b, (ce != 0) = b := ⟨_, rfl⟩
    have HE := Lib.hid hE
    have hz4 := HZ3.out.alloc (.cells #[.bool x.isList, .string ⟨x.text.toArray⟩, .slice xp x.list.length xc] 46)
    have b4 := HL3.out.trans ((laid1 w3 (.cells #[.bool x.isList, .string ⟨x.text.toArray⟩, .slice xp x.list.length xc] 46)).mono HL3.out.size)
    have f0 := hz4.frozen 0
    have f1 := hz4.frozen 1
    have f2 := hz4.frozen 2
    have e0 := hz4.cell (j := 0) rfl
    have e1 := hz4.cell (j := 1) rfl
    have e2 := hz4.cell (j := 2) rfl
    clear z0 z1 hb3 hrd
    cases E with
    | true =>
      go_wp2_with fail
      obtain ⟨w4, hal⟩ : ∃ W, w3.alloc (.cells #[.bool x.isList, .string ⟨x.text.toArray⟩, .slice xp x.list.length xc] 46) = W := ⟨_, rfl⟩
      rw [hal] at hz4 b4 ⊢
      have hf := ((hz4.set 0 (.bool false)).set 1 (.string ⟨#[]⟩)).set 2 (.slice none 0 0)
      refine bodyPost_ret (results_cells2 rfl _ _ (w.heap.size + 1) [.bool false, .string ⟨#[]⟩, .slice none 0 0] _ (by rfl) (HasCells.kept hf rfl).range Tryz.underlying46 rfl infoItemS) rfl ?_
      have hbf := ((Below.setCell b4 (p := ⟨w.heap.size + 1, 0, none⟩) (show w.heap.size ≤ w.heap.size + 1 by omega) (.bool false)).setCell (p := ⟨w.heap.size + 1, 1, none⟩) (show w.heap.size ≤ w.heap.size + 1 by omega) (.string ⟨#[]⟩)).setCell (p := ⟨w.heap.size + 1, 2, none⟩) (show w.heap.size ≤ w.heap.size + 1 by omega) (.slice none 0 0)
      have hrr : rr = none := by
        rw [← HRR.out, if_neg]
        rintro ⟨-, h2⟩
        rw [hdec.out] at h2
        have h3 := HE.out
        rw [show ce = 0 from h2] at h3
        simp at h3
      rw [hrr]
      exact ⟨Upd.of_below hbf hB, false, _, _, _, _, by rfl⟩
    | false =>
      go_wp2_with fail
      obtain ⟨w4, hal⟩ : ∃ W, w3.alloc (.cells #[.bool x.isList, .string ⟨x.text.toArray⟩, .slice xp x.list.length xc] 46) = W := ⟨_, rfl⟩
      rw [hal] at b4 hz4 ⊢
      have hw4 := HW3.out.alloc (.cells #[.bool x.isList, .string ⟨x.text.toArray⟩, .slice xp x.list.length xc] 46)
      have hq4 := HQ3.out.alloc (.cells #[.bool x.isList, .string ⟨x.text.toArray⟩, .slice xp x.list.length xc] 46)
      have hn4 := HasCells.new w3 [.bool x.isList, .string ⟨x.text.toArray⟩, .slice xp x.list.length xc] 46
      rw [show w3.alloc (.cells ([.bool x.isList, .string ⟨x.text.toArray⟩, .slice xp x.list.length xc] : List Value).toArray 46) = w4 from hal] at hn4
      rw [hal] at hw4 hq4
      have hr4 : RIn w4 w2.heap.size (.slice xp x.list.length xc) x.list := by rw [← hal]; exact HRD.out.below (laid1 w3 _)
      have hs4 : w4.heap.size = w3.heap.size + 1 := by rw [← hal]; simp
      have HW4 := Lib.hid hw4
      have HQ4 := Lib.hid hq4
      have HN4 := Lib.hid hn4
      have HZ4 := Lib.hid hz4
      have HR4 := Lib.hid hr4
      have HB4 := Lib.hid b4
      have HS4 := Lib.hid hs4
      clear hal hw4 hq4 hn4 hr4 hz4 b4 f0 f1 f2 e0 e1 e2 hs4
      have h1le : (1 : Int) ≤ (rest.length : Int) + 1 := by omega
      have HSF := Lib.hid (show w4.cell? ⟨wb, 1, none⟩ = some (.slice (some ⟨bk, ob, none⟩) (rest.length + 1) pc) ∧ w4.cell? ⟨w3.heap.size, 0, none⟩ = some (.bool x.isList) ∧ w4.cell? ⟨w3.heap.size, 1, none⟩ = some (.string ⟨x.text.toArray⟩) ∧ w4.cell? ⟨w3.heap.size, 2, none⟩ = some (.slice xp x.list.length xc) from ⟨HW4.out.cell (j := 1) rfl, HN4.out.cell (j := 0) rfl, HN4.out.cell (j := 1) rfl, HN4.out.cell (j := 2) rfl⟩)
      refine wp_region_L (fun Ls w' => Ls.getD 10 true = false → w'.cell? ⟨wb, 1, none⟩ = some (.slice (some ⟨bk, ob, none⟩) (rest.length + 1) pc) ∧ w'.cell? ⟨w3.heap.size, 0, none⟩ = some (.bool x.isList) ∧ w'.cell? ⟨w3.heap.size, 1, none⟩ = some (.string ⟨x.text.toArray⟩) ∧ w'.cell? ⟨w3.heap.size, 2, none⟩ = some (.slice xp x.list.length xc)) (by kernel_rfl) ?_
      refine wpAnyL_take (i := 0) (v := ?_) (fuel := 10) rfl (by kernel_rfl) (by kernel_rfl) (by kernel_rfl) (by kernel_rfl) (fun _ _ _ h => h) (fun Ls w' => by rw [getD_set_ne true (by omega)]) (fun _ => HSF.out) (.inl ⟨by rfl, ?_⟩) ?_
      rotate_left 1
      · rintro w' ⟨Ls, hcl, h0, hS⟩
        clear hS hcl h0
        go_simp <;> with_reducible rfl
      try simp only [Act.put, zq1, zq2, zq4, zq5, zq6]
      refine wpAnyL_take (i := 1) (v := ?_) (fuel := 9) rfl (by kernel_rfl) (by kernel_rfl) (by kernel_rfl) (by kernel_rfl) (fun _ _ _ h => h) (fun Ls w' => by rw [getD_set_ne true (by omega)]) (fun _ => HSF.out) (.inl ⟨by rfl, ?_⟩) ?_
      rotate_left 1
      · rintro w' ⟨Ls, hcl, h0, hS⟩
        have hSw := hS (closedB_before hcl (i := 1) (by kernel_rfl) h0)
        obtain ⟨z0, z1, z2, z3⟩ := hSw
        clear hS hcl h0
        go_simp <;> with_reducible rfl
      try simp only [Act.put, zq1, zq2, zq3, zq4, zq5, zq6]
      refine wpAnyL_take (i := 2) (v := ?_) (fuel := 8) rfl (by kernel_rfl) (by kernel_rfl) (by kernel_rfl) (by kernel_rfl) (fun _ _ _ h => h) (fun Ls w' => by rw [getD_set_ne true (by omega)]) (fun _ => HSF.out) (.inl ⟨by rfl, ?_⟩) ?_
      rotate_left 1
      · rintro w' ⟨Ls, hcl, h0, hS⟩
        clear hS hcl h0
        go_simp <;> with_reducible rfl
      try simp only [Act.put, zq1, zq2, zq3, zq4, zq5, zq6]
      refine wpAnyL_take (i := 3) (v := ?_) (fuel := 7) rfl (by kernel_rfl) (by kernel_rfl) (by kernel_rfl) (by kernel_rfl) (fun _ _ _ h => h) (fun Ls w' => by rw [getD_set_ne true (by omega)]) (fun _ => HSF.out) (.inl ⟨by rfl, ?_⟩) ?_
      rotate_left 1
      · rintro w' ⟨Ls, hcl, h0, hS⟩
        clear hS hcl h0
        go_simp <;> with_reducible rfl
      try simp only [Act.put, zq1, zq2, zq3, zq4, zq5, zq6]
      refine wpAnyL_take (i := 4) (v := ?_) (fuel := 6) rfl (by kernel_rfl) (by kernel_rfl) (by kernel_rfl) (by kernel_rfl) (fun _ _ _ h => h) (fun Ls w' => by rw [getD_set_ne true (by omega)]) (fun _ => HSF.out) (.inl ⟨by rfl, ?_⟩) ?_
      rotate_left 1
      · rintro w' ⟨Ls, hcl, h0, hS⟩
        clear hS hcl h0
        go_simp <;> with_reducible rfl
      try simp only [Act.put, zq1, zq2, zq3, zq4, zq5, zq6]
      refine wpAnyL_take (i := 5) (v := ?_) (fuel := 5) rfl (by kernel_rfl) (by kernel_rfl) (by kernel_rfl) (by kernel_rfl) (fun _ _ _ h => h) (fun Ls w' => by rw [getD_set_ne true (by omega)]) (fun _ => HSF.out) (.inl ⟨by rfl, ?_⟩) ?_
      rotate_left 1
      · rintro w' ⟨Ls, hcl, h0, hS⟩
        have hSw := hS (closedB_before hcl (i := 5) (by kernel_rfl) h0)
        obtain ⟨z0, z1, z2, z3⟩ := hSw
        clear hS hcl h0
        go_simp <;> with_reducible rfl
      try simp only [Act.put, zq1, zq2, zq3, zq4, zq5, zq6]
      refine wpAnyL_take (i := 6) (v := ?_) (fuel := 4) rfl (by kernel_rfl) (by kernel_rfl) (by kernel_rfl) (by kernel_rfl) (fun _ _ _ h => h) (fun Ls w' => by rw [getD_set_ne true (by omega)]) (fun _ => HSF.out) (.inl ⟨by rfl, ?_⟩) ?_
      rotate_left 1
      · rintro w' ⟨Ls, hcl, h0, hS⟩
        clear hS hcl h0
        go_simp <;> with_reducible rfl
      try simp only [Act.put, zq1, zq2, zq3, zq4, zq5, zq6]
      have g0 := HQ4.out.cell (j := 0) rfl
      have g1 := HQ4.out.cell (j := 1) rfl
      have g2 := HQ4.out.cell (j := 2) rfl
      have k0 := HQ4.out.frozen 0
      have k1 := HQ4.out.frozen 1
      have k2 := HQ4.out.frozen 2
      obtain ⟨Q, hQ⟩ : ∃ v, (if pc = 1 then some ⟨bk, ob, none⟩ else some ⟨bk, ob + 1, none⟩ : Option Addr) = v := ⟨_, rfl⟩
      rw [hQ]
      have HQQ := Lib.hid hQ
      clear hQ
      refine wpAnyL_one (i := 7) (fuel := 3) (by kernel_rfl) rfl (fun K hK => ?_)
      go_simp
      obtain ⟨w5, h5⟩ : ∃ W, (((w4.setCell ⟨w.heap.size, 0, none⟩ (.bool x.isList)).setCell ⟨w.heap.size, 1, none⟩ (.string ⟨x.text.toArray⟩)).setCell ⟨w.heap.size, 2, none⟩ (.slice xp x.list.length xc)).drew = W := ⟨_, rfl⟩
      rw [h5]
      have t1 := HSZ3.out
      have t2 := HSZ2.out
      have HQ5 : Hid (HasCells w5 w.heap.size [.bool x.isList, .string ⟨x.text.toArray⟩, .slice xp x.list.length xc] 46) := Lib.hid (by rw [← h5]; exact HasCells.kept (((HQ4.out.set 0 _).set 1 _).set 2 _) rfl)
      have HW5 : Hid (HasCells w5 wb _ _) := Lib.hid (by rw [← h5]; exact HasCells.kept (((HW4.out.setOther (i := 0) (show wb ≠ w.heap.size by omega) _).setOther (i := 1) (show wb ≠ w.heap.size by omega) _).setOther (i := 2) (show wb ≠ w.heap.size by omega) _) rfl)
      have HN5 : Hid (HasCells w5 w3.heap.size _ _) := Lib.hid (by rw [← h5]; exact HasCells.kept (((HN4.out.setOther (i := 0) (show w3.heap.size ≠ w.heap.size by omega) _).setOther (i := 1) (show w3.heap.size ≠ w.heap.size by omega) _).setOther (i := 2) (show w3.heap.size ≠ w.heap.size by omega) _) rfl)
      have HZ5 : Hid (HasCells w5 (w.heap.size + 1) _ _) := Lib.hid (by rw [← h5]; exact HasCells.kept (((HZ4.out.setOther (i := 0) (show w.heap.size + 1 ≠ w.heap.size by omega) _).setOther (i := 1) (show w.heap.size + 1 ≠ w.heap.size by omega) _).setOther (i := 2) (show w.heap.size + 1 ≠ w.heap.size by omega) _) rfl)
      have HR5 : Hid (RIn w5 w2.heap.size (.slice xp x.list.length xc) x.list) := Lib.hid (by rw [← h5]; exact ReadsIn.kept (((HR4.out.store (j := 0) (show w.heap.size < w2.heap.size by omega) _).store (j := 1) (show w.heap.size < w2.heap.size by omega) _).store (j := 2) (show w.heap.size < w2.heap.size by omega) _) (fun _ _ _ _ hc => hc) (fun _ hg => hg))
      have HB5 : Hid (Below w.heap.size w w5) := Lib.hid (by rw [← h5]; exact (((HB4.out.setCell (p := ⟨w.heap.size, 0, none⟩) (Nat.le_refl _) _).setCell (p := ⟨w.heap.size, 1, none⟩) (Nat.le_refl _) _).setCell (p := ⟨w.heap.size, 2, none⟩) (Nat.le_refl _) _).drew)
      have HS5 : Hid (w5.heap.size = w3.heap.size + 1) := Lib.hid (by rw [← h5, ← HS4.out]; simp)
      clear h5 t1 t2 g0 g1 g2 k0 k1 k2
      have HSF5 := Lib.hid (show w5.cell? ⟨wb, 1, none⟩ = some (.slice (some ⟨bk, ob, none⟩) (rest.length + 1) pc) ∧ w5.cell? ⟨w3.heap.size, 0, none⟩ = some (.bool x.isList) ∧ w5.cell? ⟨w3.heap.size, 1, none⟩ = some (.string ⟨x.text.toArray⟩) ∧ w5.cell? ⟨w3.heap.size, 2, none⟩ = some (.slice xp x.list.length xc) from ⟨HW5.out.cell (j := 1) rfl, HN5.out.cell (j := 0) rfl, HN5.out.cell (j := 1) rfl, HN5.out.cell (j := 2) rfl⟩)
      refine hK.out _ _ (fun h => HSF5.out) (fun _ => ?_)
      clear hK K
      try simp only [Act.put, zq1, zq2, zq3, zq4, zq5, zq6]
      refine wpAnyL_take (i := 8) (v := ?_) (fuel := 2) rfl (by kernel_rfl) (by kernel_rfl) (by kernel_rfl) (by kernel_rfl) (fun _ _ _ h => h) (fun Ls w' => by rw [getD_set_ne true (by omega)]) (fun _ => HSF5.out) (.inl ⟨by rfl, ?_⟩) ?_
      rotate_left 1
      · rintro w' ⟨Ls, hcl, h0, hS⟩
        clear hS hcl h0
        go_simp <;> with_reducible rfl
      try simp only [Act.put, zq1, zq2, zq3, zq4, zq5, zq6]
      refine wpAnyL_take (i := 9) (v := ?_) (fuel := 1) rfl (by kernel_rfl) (by kernel_rfl) (by kernel_rfl) (by kernel_rfl) (fun _ _ _ h => h) (fun Ls w' => by rw [getD_set_ne true (by omega)]) (fun _ => HSF5.out) (.inl ⟨by rfl, ?_⟩) ?_
      rotate_left 1
      · rintro w' ⟨Ls, hcl, h0, hS⟩
        clear hS hcl h0
        go_simp <;> with_reducible rfl
      try simp only [Act.put, zq1, zq2, zq3, zq4, zq5, zq6]
      have g1 := HW5.out.cell (j := 1) rfl
      have k1 := HW5.out.frozen 1
      refine wpAnyL_one (i := 10) (fuel := 0) (by kernel_rfl) rfl (fun K hK => ?_)
      go_simp
      refine hK.out _ _ (fun h => (by cases h)) (fun _ => ?_)
      clear hK K
      try simp only [Act.put, zq1, zq2, zq3, zq4, zq5, zq6]
      refine wpAnyL_done (by kernel_rfl) ?_ 0
      go_wp2_with fail
      obtain ⟨w6, h6⟩ : ∃ W, w5.setCell ⟨wb, 1, none⟩ (.slice Q rest.length (pc - 1)) = W := ⟨_, rfl⟩
      rw [h6]
      have HW6 : Hid (HasCells w6 wb [.string path, .slice Q rest.length (pc - 1), .string vl] 56) := Lib.hid (by rw [← h6]; exact HW5.out.set 1 _)
      have HQ6 : Hid (HasCells w6 w.heap.size [.bool x.isList, .string ⟨x.text.toArray⟩, .slice xp x.list.length xc] 46) := Lib.hid (by rw [← h6]; exact HQ5.out.setOther (show w.heap.size ≠ wb by omega) _)
      have HZ6 : Hid (HasCells w6 (w.heap.size + 1) itemZ 46) := Lib.hid (by rw [← h6]; exact HZ5.out.setOther (show w.heap.size + 1 ≠ wb by omega) _)
      have HR6 : Hid (RIn w6 w2.heap.size (.slice xp x.list.length xc) x.list) := Lib.hid (by rw [← h6]; exact HR5.out.store (show wb < w2.heap.size by have := HSZ2.out; omega) _)
      have HU6 : Hid (Upd B wb w w6) := Lib.hid ((Upd.of_below HB5.out hB).trans (by rw [← h6]; exact Upd.set w5 hBw 1 _))
      have HS6 : Hid (StrsB B w6 (.slice Q rest.length (pc - 1)) (rest.map bt)) := Lib.hid (by
        refine ⟨Q, pc - 1, by rw [List.length_map], by rw [List.length_map]; omega, ?_⟩
        by_cases hr : rest = []
        · exact .inl (by rw [hr]; rfl)
        · have hp := List.length_pos_iff.2 hr
          refine .inr ⟨bk, ob + 1, by rw [← HQQ.out, if_neg (by omega)], hbk, fun j y hy => ?_⟩
          exact (HU6.out.1.cell (p := ⟨bk, ob + 1 + j, none⟩) hbk).trans (HSS.out j y hy))
      have hce : ce = 0 := by have h := HE.out; simpa using h
      have hsm : Small x := decode_ok (s := s) (by rw [hdec.out, hce])
      have hrr : (if isNodeP x then some (x, rest) else none) = rr := by
        have h1 : k = ref.text ∧ (decode s).2 = 0 := ⟨by have h := HEQ.out; rw [HTT.out]; simpa using h, by rw [hdec.out]; exact hce⟩
        have h2 := HRR.out
        rw [if_pos h1, hdec.out] at h2
        exact h2
      obtain ⟨np, hnp⟩ : ∃ b, isNodeP x = b := ⟨_, rfl⟩
      have H1 := Lib.hid (fun W (hb : Below w6.heap.size w6 W) => isNode_any x _ W hsm (HR6.out.below hb).reads)
      rw [hnp] at H1 hrr
      have HRX := Lib.hid hrr
      have HSM := Lib.hid hsm
      have HQF := Lib.hid (fun W (hb : Below w6.heap.size w6 W) => (show W.cell? ⟨w.heap.size, 0, none⟩ = some (.bool x.isList) ∧ W.cell? ⟨w.heap.size, 1, none⟩ = some (.string ⟨x.text.toArray⟩) ∧ W.cell? ⟨w.heap.size, 2, none⟩ = some (.slice xp x.list.length xc) from ⟨(HQ6.out.after hb).cell (j := 0) rfl, (HQ6.out.after hb).cell (j := 1) rfl, (HQ6.out.after hb).cell (j := 2) rfl⟩))
      have hS8 : w.heap.size + 2 ≤ w6.heap.size := by rw [← h6, World.size_setCell, HS5.out]; have := HSZ3.out; omega
      have HS8 := Lib.hid hS8
      clear h6 hS8 hsm hrr hce hnp g1 k1
      have b0 : Below w6.heap.size w6 w6.drew := (Below.refl _ _).drew
      refine wp_region_held_drew (S := (fun W => W.cell? ⟨w.heap.size, 0, none⟩ = some (.bool x.isList) ∧ W.cell? ⟨w.heap.size, 1, none⟩ = some (.string ⟨x.text.toArray⟩) ∧ W.cell? ⟨w.heap.size, 2, none⟩ = some (.slice xp x.list.length xc))) (by kernel_rfl) (HQF.out _ b0) (fun hHeld => ?_)
      refine wpAnyH_take (i := 0) (v := ?_) rfl (by kernel_rfl) (by kernel_rfl) (by kernel_rfl) (fun _ _ _ h => h) (.inl ⟨by rfl, ?_⟩) (by assumption) ?_
      rotate_left 1
      · intro w0 hSw
        obtain ⟨z0, z1, z2⟩ := hSw
        go_simp <;> with_reducible rfl
      try simp only [Act.put, zq1, zq2, zq4, zq5, zq6]
      refine wpAnyH_take (i := 1) (v := ?_) rfl (by kernel_rfl) (by kernel_rfl) (by kernel_rfl) (fun _ _ _ h => h) (.inl ⟨by rfl, ?_⟩) (by assumption) ?_
      rotate_left 1
      · intro w0 hSw
        obtain ⟨z0, z1, z2⟩ := hSw
        go_simp <;> with_reducible rfl
      try simp only [Act.put, zq1, zq2, zq3, zq4, zq5, zq6]
      refine wpAnyH_ready (rs := [2]) (by kernel_rfl) (by simp) ?_
      refine AllReadyH.cons rfl (fun K hK => ?_) AllReadyH.nil
      go_simp
      go_at_call 46
      refine (H1.out _ b0).mono ?_
      rintro e w7 ⟨rfl, hb7⟩
      have b7 := b0.trans (hb7.mono b0.size)
      have hz7 := HZ6.out.after b7
      have HZ7 := Lib.hid hz7
      have HB7 := Lib.hid b7
      have HSZ8 := Lib.hid (Nat.le_trans HS8.out b7.size)
      have e0 := hz7.cell (j := 0) rfl
      have e1 := hz7.cell (j := 1) rfl
      have e2 := hz7.cell (j := 2) rfl
      have f0 := hz7.frozen 0
      have f1 := hz7.frozen 1
      have f2 := hz7.frozen 2
      clear hz7 hb7
      refine hK.out _ _ (HQF.out _ b7) (fun hHeld => ?_)
      clear hK K
      try simp only [Act.put, zq1, zq2, zq3, zq4, zq5, zq6]
      refine wpAnyH_ready (rs := [3]) (by kernel_rfl) (by simp) ?_
      refine AllReadyH.cons rfl (fun K hK => ?_) AllReadyH.nil
      go_simp
      refine hK.out _ _ (⟨three_other hHeld.1 (by omega) _ _ _, three_other hHeld.2.1 (by omega) _ _ _, three_other hHeld.2.2 (by omega) _ _ _⟩) (fun hHeld => ?_)
      clear hK K
      try simp only [Act.put, zq1, zq2, zq3, zq4, zq5, zq6]
      refine wpAnyH_take (i := 4) (v := ?_) rfl (by kernel_rfl) (by kernel_rfl) (by kernel_rfl) (fun _ _ _ h => h) (.inl ⟨by rfl, ?_⟩) (by assumption) ?_
      rotate_left 1
      · intro w0 hSw
        go_simp <;> with_reducible rfl
      try simp only [Act.put, zq1, zq2, zq3, zq4, zq5, zq6]
      refine wpAnyH_done (by kernel_rfl) ?_ 0
      clear hHeld
      go_wp2_with fail
      have hf := ((HZ7.out.set 0 (.bool x.isList)).set 1 (.string ⟨x.text.toArray⟩)).set 2 (.slice xp x.list.length xc)
      refine bodyPost_ret (results_cells2 rfl _ _ (w.heap.size + 1) [.bool x.isList, .string ⟨x.text.toArray⟩, .slice xp x.list.length xc] _ (by rfl) hf.range Tryz.underlying46 rfl infoItemS) rfl ?_
      have t2 := HSZ2.out
      have hbf := (((HB7.out.mono (show w.heap.size ≤ w6.heap.size by have := HS8.out; omega)).setCell (p := ⟨w.heap.size + 1, 0, none⟩) (show w.heap.size ≤ w.heap.size + 1 by omega) (.bool x.isList)).setCell (p := ⟨w.heap.size + 1, 1, none⟩) (show w.heap.size ≤ w.heap.size + 1 by omega) (.string ⟨x.text.toArray⟩)).setCell (p := ⟨w.heap.size + 1, 2, none⟩) (show w.heap.size ≤ w.heap.size + 1 by omega) (.slice xp x.list.length xc)
      have hrf := (((HR6.out.below HB7.out).store (g := w.heap.size + 1) (j := 0) (show w.heap.size + 1 < w2.heap.size by omega) (.bool x.isList)).store (g := w.heap.size + 1) (j := 1) (show w.heap.size + 1 < w2.heap.size by omega) (.string ⟨x.text.toArray⟩)).store (g := w.heap.size + 1) (j := 2) (show w.heap.size + 1 < w2.heap.size by omega) (.slice xp x.list.length xc)
      have hne : wb ≠ w.heap.size + 1 := by omega
      have hwf := (((HW6.out.after HB7.out).setOther (i := 0) hne (.bool x.isList)).setOther (i := 1) hne (.string ⟨x.text.toArray⟩)).setOther (i := 2) hne (.slice xp x.list.length xc)
      refine ⟨⟨HU6.out.1.trans (hbf.mono hB), Nat.le_trans HU6.out.2.1 hbf.size, fun g hg hne => (hbf.block g hg).trans (HU6.out.2.2 g hg hne)⟩, ?_⟩
      rw [← HRX.out]
      cases np with
      | false =>
        rw [if_neg (by simp)]
        exact ⟨_, _, _, _, _, by rfl⟩
      | true =>
        rw [if_pos rfl]
        exact ⟨xp, x.list.length, xc, Q, pc - 1, by rfl, ReadsIn.mono hrf (fun g hg => ⟨hg.2, by have := hg.1; omega⟩), HSM.out, hwf, HS6.out.below (hbf.mono hB)⟩
end Go.Proofs.YthicdhnjincflaaGreatDoor
/- Contract of the walk's step. -/
namespace Go.Proofs.YthicdhnjincflaaGreatDoor
open Go.RowKit Go.Shelf Go.Lib
attribute [local go_sem] Oper.semAt_some
theorem Upd.above {B wb : Nat} {w w' W : World} (h : Upd B wb w w') (hb : Below w.heap.size w' W) (hB : B ≤ w.heap.size) : Upd B wb w W :=
  ⟨h.1.trans (hb.mono hB), Nat.le_trans h.2.1 hb.size, fun g hg hne => (hb.block g hg).trans (h.2.2 g hg hne)⟩
theorem three_at {B g : Nat} {w w' : World} (h : Below B w w') (hg : B ≤ g) (v0 v1 v2 : Value) : Below B w (((w'.setCell ⟨g, 0, none⟩ v0).setCell ⟨g, 1, none⟩ v1).setCell ⟨g, 2, none⟩ v2) :=
  ((h.setCell (p := ⟨g, 0, none⟩) hg v0).setCell (p := ⟨g, 1, none⟩) hg v1).setCell (p := ⟨g, 2, none⟩) hg v2
theorem HasCells.threeOther {W : World} {q g : Nat} {cs : List Value} {t : TypeId} (h : HasCells W q cs t) (hne : q ≠ g) (v0 v1 v2 : Value) : HasCells (((W.setCell ⟨g, 0, none⟩ v0).setCell ⟨g, 1, none⟩ v1).setCell ⟨g, 2, none⟩ v2) q cs t :=
  ((h.setOther hne v0).setOther hne v1).setOther hne v2
theorem bt_head (h : UInt8) (tl : List UInt8) (hp : 0 < (⟨(h :: tl).toArray⟩ : ByteArray).size) : (⟨(h :: tl).toArray⟩ : ByteArray)[0]'hp = h := rfl
theorem bt_tail (h : UInt8) (tl : List UInt8) : (⟨(h :: tl).toArray⟩ : ByteArray).extract 1 (tl.length + 1) = ⟨tl.toArray⟩ := by
  have e := cut_both (h :: tl) 1 tl.length
  rw [Nat.add_comm] at e
  simpa using e
def StepRes (B wb z : Nat) (pv : Value) (r : Way) (w : World) (e : Ending) (w' : World) : Prop :=
  Upd B wb w w' ∧ match r with
  | .stop v => ∃ b s p n c path, e = .returned (.tuple #[.agg #[.bool b, .string s, .slice p n c], .bool false]) ∧ HasCells w' wb [.string path, pv, .string (bt v)] 56
  | .next y p => ∃ xp xn xc, e = .returned (.tuple #[.agg #[.bool y.isList, .string ⟨y.text.toArray⟩, .slice xp xn xc], .bool true]) ∧ RZ z w' (.slice xp xn xc) y.list ∧
      HasCells w' wb [.string (bt p), pv, .string ⟨#[]⟩] 56
set_option maxRecDepth 100000 in
set_option maxHeartbeats 6400000 in
theorem walkStep_end (B wb z : Nat) (x : Item) (p : Option Addr) (c : Nat) (pp : Option Addr) (pn pc : Nat) (w : World) (hB : B ≤ w.heap.size) (hBw : B ≤ wb) (hl : x.isList = true) (h17 : x.list.length = 17) (hr : RZ z w (.slice p 17 c) x.list)
    (hw : HasCells w wb [.string ⟨#[]⟩, .slice pp pn pc, .string ⟨#[]⟩] 56) :
    Calls Tryz.prog 28 #[.pointer (some ⟨wb, 0, none⟩), .agg #[.bool x.isList, .string ⟨x.text.toArray⟩, .slice p 17 c]] w (StepRes B wb z (.slice pp pn pc) (stepP x []) w) := by
  rw [show stepP x [] = .stop (x.list.getD 16 .none).text from by unfold stepP; rw [if_pos h17]]
  obtain ⟨y, hy⟩ : ∃ y, x.list[16]? = some y := ⟨_, List.getElem?_eq_getElem (by omega)⟩
  rw [show x.list.getD 16 .none = y from by rw [List.getD_eq_getElem?_getD, hy]; rfl]
  obtain ⟨-, g, o, rfl, ⟨hg, -⟩, hat⟩ := ReadsIn.at hr (by decide)
  obtain ⟨-, a1, -⟩ := hat 16 y hy
  simp only [Nat.add_assoc, Nat.reduceMul, Nat.reduceAdd] at a1
  have hlo := laid2 w (.cells #[.bool x.isList, .string ⟨x.text.toArray⟩, .slice (some ⟨g, o, none⟩) 17 c] 46) (.cells itemZ.toArray 46)
  have hq0 := (HasCells.new w [.bool x.isList, .string ⟨x.text.toArray⟩, .slice (some ⟨g, o, none⟩) 17 c] 46).alloc (.cells itemZ.toArray 46)
  have hz0 : HasCells ((w.alloc (.cells #[.bool x.isList, .string ⟨x.text.toArray⟩, .slice (some ⟨g, o, none⟩) 17 c] 46)).alloc (.cells itemZ.toArray 46)) (w.heap.size + 1) itemZ 46 := by
    have h := HasCells.new (w.alloc (.cells #[.bool x.isList, .string ⟨x.text.toArray⟩, .slice (some ⟨g, o, none⟩) 17 c] 46)) itemZ 46
    rwa [World.size_alloc] at h
  obtain ⟨w0, hw0⟩ : ∃ W, (w.alloc (.cells #[.bool x.isList, .string ⟨x.text.toArray⟩, .slice (some ⟨g, o, none⟩) 17 c] 46)).alloc (.cells itemZ.toArray 46) = W := ⟨_, rfl⟩
  have hsz0 : w0.heap.size = w.heap.size + 2 := by rw [← hw0]; simp
  rw [show (w.alloc (.cells ([.bool x.isList, .string ⟨x.text.toArray⟩, .slice (some ⟨g, o, none⟩) 17 c] : List Value).toArray 46)).alloc (.cells itemZ.toArray 46) = w0 from hw0] at hq0
  rw [hw0] at hz0 hlo
  have hw00 := hw.after hlo
  have hwb := hw.lt
  obtain ⟨t, htt⟩ : ∃ t, x.text = t := ⟨_, rfl⟩
  have HW0 := Lib.hid (show (w.alloc (.cells #[.bool true, .string ⟨t.toArray⟩, .slice (some ⟨g, o, none⟩) 17 c] 46)).alloc (.cells #[.bool false, .string ⟨#[]⟩, .slice none 0 0] 46) = w0 from by have hw1 := hw0; rw [hl, htt] at hw1; exact hw1)
  rw [hl, htt] at hq0 ⊢
  have HWC0 := Lib.hid hw00
  have HLO := Lib.hid hlo
  have HQ0 := Lib.hid hq0
  have HZ0 := Lib.hid hz0
  have HSZ := Lib.hid hsz0
  clear hl hw hlo hw0 hq0 hz0 htt hw00 hsz0
  have hc1 := (HLO.out.cell (p := ⟨g, o + 49, none⟩) hg).trans a1
  have hc0 := HWC0.out.cell (j := 0) rfl
  have hc2 := HWC0.out.cell (j := 2) rfl
  have hd2 := HWC0.out.frozen 2
  have hq2 := HQ0.out.cell (j := 2) rfl
  have f0 := HZ0.out.frozen 0
  have f1 := HZ0.out.frozen 1
  have f2 := HZ0.out.frozen 2
  have e0 := HZ0.out.cell (j := 0) rfl
  have e1 := HZ0.out.cell (j := 1) rfl
  have e2 := HZ0.out.cell (j := 2) rfl
  have n1 : ¬ wb = w.heap.size + 1 := by omega
  have n2 : ¬ w.heap.size + 1 = wb := by omega
  clear hat hr
  go_enter Tryz.func28, Tryz.ntmps28
  go_wp2_with (rw [HW0.out])
  go_wp2_with fail
  have hf := (((HZ0.out.setOther (i := 2) n2 (.string ⟨y.text.toArray⟩)).set 0 (.bool false)).set 1 (.string ⟨#[]⟩)).set 2 (.slice none 0 0)
  refine bodyPost_ret (results_cells2 rfl _ _ (w.heap.size + 1) [.bool false, .string ⟨#[]⟩, .slice none 0 0] _ (by rfl) (HasCells.kept hf rfl).range Tryz.underlying46 rfl infoItemS) rfl ?_
  exact ⟨(((Upd.of_below HLO.out hB).trans (Upd.set w0 hBw 2 _)).above (three_at (Below.refl _ _) (by omega) _ _ _) hB), false, _, _, _, _, ⟨#[]⟩, by rfl, (HWC0.out.set 2 (.string ⟨y.text.toArray⟩)).threeOther n1 _ _ _⟩
set_option maxRecDepth 100000 in
set_option maxHeartbeats 6400000 in
theorem walkStep_half (B wb z : Nat) (x : Item) (p : Option Addr) (c : Nat) (h : UInt8) (tl : List UInt8) (pp : Option Addr) (pn pc : Nat) (w : World) (hB : B ≤ w.heap.size) (hBw : B ≤ wb) (hl : x.isList = true) (h17 : x.list.length = 17) (hh : h.toNat ≤ 15) (hlen : tl.length ≤ 1099511627776) (hr : RZ z w (.slice p 17 c) x.list)
    (hw : HasCells w wb [.string ⟨(h :: tl).toArray⟩, .slice pp pn pc, .string ⟨#[]⟩] 56) :
    Calls Tryz.prog 28 #[.pointer (some ⟨wb, 0, none⟩), .agg #[.bool x.isList, .string ⟨x.text.toArray⟩, .slice p 17 c]] w (StepRes B wb z (.slice pp pn pc) (stepP x (h :: tl)) w) := by
  obtain ⟨y, hy⟩ : ∃ y, x.list[h.toNat]? = some y := ⟨_, List.getElem?_eq_getElem (by omega)⟩
  obtain ⟨rr, hrr⟩ : ∃ r, stepP x (h :: tl) = r := ⟨_, rfl⟩
  rw [hrr]
  rw [show stepP x (h :: tl) = if emptyI y then .stop [] else .next y tl from by unfold stepP; rw [if_pos h17]; dsimp only; rw [show x.list.getD h.toNat .none = y from by rw [List.getD_eq_getElem?_getD, hy]; rfl]] at hrr
  have HRR := Lib.hid hrr
  obtain ⟨-, g, o, rfl, ⟨hg, -⟩, hat⟩ := ReadsIn.at hr (by decide)
  obtain ⟨a0, a1, v2, a2, hv2⟩ := hat h.toNat y hy
  obtain ⟨yp, yc, rfl⟩ := ReadsIn.form hv2
  obtain ⟨yn, hyn⟩ : ∃ n, y.list.length = n := ⟨_, rfl⟩
  rw [hyn] at a2 hv2
  have HV : Hid (RZ z w _ _) := Lib.hid hv2
  have HWW := Lib.hid hw
  clear hrr hyn
  have hlo := laid2 w (.cells #[.bool x.isList, .string ⟨x.text.toArray⟩, .slice (some ⟨g, o, none⟩) 17 c] 46) (.cells itemZ.toArray 46)
  have hq0 := (HasCells.new w [.bool x.isList, .string ⟨x.text.toArray⟩, .slice (some ⟨g, o, none⟩) 17 c] 46).alloc (.cells itemZ.toArray 46)
  have hz0 : HasCells ((w.alloc (.cells #[.bool x.isList, .string ⟨x.text.toArray⟩, .slice (some ⟨g, o, none⟩) 17 c] 46)).alloc (.cells itemZ.toArray 46)) (w.heap.size + 1) itemZ 46 := by
    have h := HasCells.new (w.alloc (.cells #[.bool x.isList, .string ⟨x.text.toArray⟩, .slice (some ⟨g, o, none⟩) 17 c] 46)) itemZ 46
    rwa [World.size_alloc] at h
  obtain ⟨w0, hw0⟩ : ∃ W, (w.alloc (.cells #[.bool x.isList, .string ⟨x.text.toArray⟩, .slice (some ⟨g, o, none⟩) 17 c] 46)).alloc (.cells itemZ.toArray 46) = W := ⟨_, rfl⟩
  have hsz0 : w0.heap.size = w.heap.size + 2 := by rw [← hw0]; simp
  rw [show (w.alloc (.cells ([.bool x.isList, .string ⟨x.text.toArray⟩, .slice (some ⟨g, o, none⟩) 17 c] : List Value).toArray 46)).alloc (.cells itemZ.toArray 46) = w0 from hw0] at hq0
  rw [hw0] at hz0 hlo
  have hw00 := hw.after hlo
  have hwb := hw.lt
  obtain ⟨t, htt⟩ : ∃ t, x.text = t := ⟨_, rfl⟩
  have HW0 := Lib.hid (show (w.alloc (.cells #[.bool true, .string ⟨t.toArray⟩, .slice (some ⟨g, o, none⟩) 17 c] 46)).alloc (.cells #[.bool false, .string ⟨#[]⟩, .slice none 0 0] 46) = w0 from by have hw1 := hw0; rw [hl, htt] at hw1; exact hw1)
  rw [hl, htt] at hq0 ⊢
  have HWC0 := Lib.hid hw00
  have HLO := Lib.hid hlo
  have HQ0 := Lib.hid hq0
  have HZ0 := Lib.hid hz0
  have HSZ := Lib.hid hsz0
  clear hl hw hlo hw0 hq0 hz0 htt hw00 hsz0
  have HC := Lib.hid (fun W (hb : Below w0.heap.size w0 W) => (show W.cell? ⟨w.heap.size, 2, none⟩ = some (.slice (some ⟨g, o, none⟩) 17 c) ∧ W.cell? ⟨wb, 0, none⟩ = some (.string ⟨(h :: tl).toArray⟩) ∧ W.cell? ⟨g, o + h.toNat * 3, none⟩ = some (.bool y.isList) ∧ W.cell? ⟨g, o + h.toNat * 3 + 1, none⟩ = some (.string ⟨y.text.toArray⟩) ∧ W.cell? ⟨g, o + h.toNat * 3 + 2, none⟩ = some (.slice yp yn yc) from
    ⟨(HQ0.out.after hb).cell (j := 2) rfl, (HWC0.out.after hb).cell (j := 0) rfl,
      ((hb.cell (p := ⟨g, o + h.toNat * 3, none⟩) (Nat.lt_of_lt_of_le hg HLO.out.size)).trans (HLO.out.cell (p := ⟨g, o + h.toNat * 3, none⟩) hg)).trans a0,
      ((hb.cell (p := ⟨g, o + h.toNat * 3 + 1, none⟩) (Nat.lt_of_lt_of_le hg HLO.out.size)).trans (HLO.out.cell (p := ⟨g, o + h.toNat * 3 + 1, none⟩) hg)).trans a1,
      ((hb.cell (p := ⟨g, o + h.toNat * 3 + 2, none⟩) (Nat.lt_of_lt_of_le hg HLO.out.size)).trans (HLO.out.cell (p := ⟨g, o + h.toNat * 3 + 2, none⟩) hg)).trans a2⟩))
  have hc0 := HWC0.out.cell (j := 0) rfl
  have hq2 := HQ0.out.cell (j := 2) rfl
  have hi : (h.toNat : Int) < 17 := by omega
  clear hat hr a0 a1 a2 hv2
  go_enter Tryz.func28, Tryz.ntmps28
  go_wp2_with (rw [HW0.out])
  have b0 : Below w0.heap.size w0 w0.drew := (Below.refl _ _).drew
  refine wp_region_held_drew (S := (fun W => W.cell? ⟨w.heap.size, 2, none⟩ = some (.slice (some ⟨g, o, none⟩) 17 c) ∧ W.cell? ⟨wb, 0, none⟩ = some (.string ⟨(h :: tl).toArray⟩) ∧ W.cell? ⟨g, o + h.toNat * 3, none⟩ = some (.bool y.isList) ∧ W.cell? ⟨g, o + h.toNat * 3 + 1, none⟩ = some (.string ⟨y.text.toArray⟩) ∧ W.cell? ⟨g, o + h.toNat * 3 + 2, none⟩ = some (.slice yp yn yc))) (by kernel_rfl) (HC.out _ b0) (fun hHeld => ?_)
  refine wpAnyH_take (i := 0) (v := ?_) rfl (by kernel_rfl) (by kernel_rfl) (by kernel_rfl) (fun _ _ _ h => h) (.inl ⟨by rfl, ?_⟩) (by assumption) ?_
  rotate_left 1
  · intro w0 hSw
    go_simp <;> with_reducible rfl
  try simp only [Act.put, zq1, zq2, zq4, zq5, zq6]
  refine wpAnyH_take (i := 1) (v := ?_) rfl (by kernel_rfl) (by kernel_rfl) (by kernel_rfl) (fun _ _ _ h => h) (.inl ⟨by rfl, ?_⟩) (by assumption) ?_
  rotate_left 1
  · intro w0 hSw
    obtain ⟨z0, z1, z2, z3, z4⟩ := hSw
    go_simp <;> with_reducible rfl
  try simp only [Act.put, zq1, zq2, zq3, zq4, zq5, zq6]
  refine wpAnyH_take (i := 2) (v := ?_) rfl (by kernel_rfl) (by kernel_rfl) (by kernel_rfl) (fun _ _ _ h => h) (.inl ⟨by rfl, ?_⟩) (by assumption) ?_
  rotate_left 1
  · intro w0 hSw
    go_simp <;> with_reducible rfl
  try simp only [Act.put, zq1, zq2, zq3, zq4, zq5, zq6]
  refine wpAnyH_take (i := 3) (v := ?_) rfl (by kernel_rfl) (by kernel_rfl) (by kernel_rfl) (fun _ _ _ h => h) (.inl ⟨by rfl, ?_⟩) (by assumption) ?_
  rotate_left 1
  · intro w0 hSw
    go_simp <;> with_reducible rfl
  try simp only [Act.put, zq1, zq2, zq3, zq4, zq5, zq6]
  refine wpAnyH_take (i := 4) (v := ?_) rfl (by kernel_rfl) (by kernel_rfl) (by kernel_rfl) (fun _ _ _ h => h) (.inl ⟨by rfl, ?_⟩) (by assumption) ?_
  rotate_left 1
  · intro w0 hSw
    go_simp <;> with_reducible rfl
  try simp only [Act.put, zq1, zq2, zq3, zq4, zq5, zq6]
  refine wpAnyH_take (i := 5) (v := ?_) rfl (by kernel_rfl) (by kernel_rfl) (by kernel_rfl) (fun _ _ _ h => h) (.inl ⟨by rfl, ?_⟩) (by assumption) ?_
  rotate_left 1
  · intro w0 hSw
    obtain ⟨z0, z1, z2, z3, z4⟩ := hSw
    go_simp <;> with_reducible rfl
  try simp only [Act.put, zq1, zq2, zq3, zq4, zq5, zq6]
  refine wpAnyH_take (i := 6) (v := ?_) rfl (by kernel_rfl) (by kernel_rfl) (by kernel_rfl) (fun _ _ _ h => h) (.inl ⟨by rfl, ?_⟩) (by assumption) ?_
  rotate_left 1
  · intro w0 hSw
    go_simp <;> with_reducible rfl
  try simp only [Act.put, zq1, zq2, zq3, zq4, zq5, zq6]
  rw [bt_head]
  refine wpAnyH_take (i := 7) (v := ?_) rfl (by kernel_rfl) (by kernel_rfl) (by kernel_rfl) (fun _ _ _ h => h) (.inl ⟨by rfl, ?_⟩) (by assumption) ?_
  rotate_left 1
  · intro w0 hSw
    go_simp <;> with_reducible rfl
  try simp only [Act.put, zq1, zq2, zq3, zq4, zq5, zq6]
  refine wpAnyH_take (i := 8) (v := ?_) rfl (by kernel_rfl) (by kernel_rfl) (by kernel_rfl) (fun _ _ _ h => h) (.inl ⟨by rfl, ?_⟩) (by assumption) ?_
  rotate_left 1
  · intro w0 hSw
    obtain ⟨z0, z1, z2, z3, z4⟩ := hSw
    go_simp <;> with_reducible rfl
  try simp only [Act.put, zq1, zq2, zq3, zq4, zq5, zq6]
  have hu1 := (laid1 w0 (.cells #[.bool false, .string ⟨#[]⟩, .slice none 0 0] 46)).drew
  have hz1 : HasCells (w0.alloc (.cells #[.bool false, .string ⟨#[]⟩, .slice none 0 0] 46)).drew w0.heap.size itemZ 46 := HasCells.kept (HasCells.new w0 itemZ 46) rfl
  refine wpAnyH_ready (rs := [9]) (by kernel_rfl) (by simp) ?_
  refine AllReadyH.cons rfl (fun K hK => ?_) AllReadyH.nil
  go_simp
  refine hK.out _ _ (HC.out _ hu1) (fun hHeld => ?_)
  clear hK K
  try simp only [Act.put, zq1, zq2, zq3, zq4, zq5, zq6]
  obtain ⟨w1, hw1⟩ : ∃ W, (w0.alloc (.cells #[.bool false, .string ⟨#[]⟩, .slice none 0 0] 46)).drew = W := ⟨_, rfl⟩
  have hs1 : w1.heap.size = w0.heap.size + 1 := by rw [← hw1]; simp
  rw [hw1] at hu1 hz1 hHeld ⊢
  have e0 := hz1.cell (j := 0) rfl
  have e1 := hz1.cell (j := 1) rfl
  have e2 := hz1.cell (j := 2) rfl
  have f0 := hz1.frozen 0
  have f1 := hz1.frozen 1
  have f2 := hz1.frozen 2
  refine wpAnyH_ready (rs := [10]) (by kernel_rfl) (by simp) ?_
  refine AllReadyH.cons rfl (fun K hK => ?_) AllReadyH.nil
  go_simp
  have hb2 := three_at hu1 (Nat.le_refl _) (.bool y.isList) (.string ⟨y.text.toArray⟩) (.slice yp yn yc)
  refine hK.out _ _ (HC.out _ hb2) (fun hHeld => ?_)
  clear hK K
  try simp only [Act.put, zq1, zq2, zq3, zq4, zq5, zq6]
  refine wpAnyH_done (by kernel_rfl) ?_ 0
  have hw1 := (HWC0.out.after hu1).threeOther (show wb ≠ w0.heap.size by have := HSZ.out; omega) (.bool y.isList) (.string ⟨y.text.toArray⟩) (.slice yp yn yc)
  have hzt := (HZ0.out.after hu1).threeOther (show w.heap.size + 1 ≠ w0.heap.size by have := HSZ.out; omega) (.bool y.isList) (.string ⟨y.text.toArray⟩) (.slice yp yn yc)
  have hn2 : HasCells _ _ [.bool y.isList, .string ⟨y.text.toArray⟩, .slice yp yn yc] _ := ((hz1.set 0 (.bool y.isList)).set 1 (.string ⟨y.text.toArray⟩)).set 2 (.slice yp yn yc)
  obtain ⟨w2, h2⟩ : ∃ W, ((w1.setCell ⟨w0.heap.size, 0, none⟩ (.bool y.isList)).setCell ⟨w0.heap.size, 1, none⟩ (.string ⟨y.text.toArray⟩)).setCell ⟨w0.heap.size, 2, none⟩ (.slice yp yn yc) = W := ⟨_, rfl⟩
  rw [h2] at hw1 hn2 hzt hb2 ⊢
  have HW2 := Lib.hid hw1
  have HN2 := Lib.hid hn2
  have HT2 := Lib.hid hzt
  have HB2 := Lib.hid hb2
  have c0 := hw1.cell (j := 0) rfl
  have d0 := hw1.frozen 0
  have HS2 := Lib.hid (show w2.heap.size = w0.heap.size + 1 by rw [← h2]; simpa using hs1)
  have hle : (1 : Int) ≤ (tl.length : Int) + 1 := by omega
  clear h2 hs1 hn2 hzt hb2 hw1 hu1 hz1 e0 e1 e2 f0 f1 f2 hHeld
  go_wp2_with fail
  rw [bt_tail]
  obtain ⟨w3, h3⟩ : ∃ W, w2.setCell ⟨wb, 0, none⟩ (.string ⟨tl.toArray⟩) = W := ⟨_, rfl⟩
  rw [h3]
  have HW3 : Hid (HasCells w3 wb [.string (bt tl), .slice pp pn pc, .string ⟨#[]⟩] 56) := Lib.hid (by rw [← h3]; exact HW2.out.set 0 _)
  have HN3 : Hid (HasCells w3 w0.heap.size [.bool y.isList, .string ⟨y.text.toArray⟩, .slice yp yn yc] 46) := Lib.hid (by rw [← h3]; exact HN2.out.setOther (show w0.heap.size ≠ wb by have := HSZ.out; omega) _)
  have HT3 : Hid (HasCells w3 (w.heap.size + 1) itemZ 46) := Lib.hid (by rw [← h3]; exact HT2.out.setOther (show w.heap.size + 1 ≠ wb by omega) _)
  have HU3 : Hid (Upd B wb w w3) := Lib.hid ((Upd.of_below (HLO.out.trans (HB2.out.mono HLO.out.size)) hB).trans (by rw [← h3]; exact Upd.set w2 hBw 0 _))
  have HS3 := Lib.hid (show w3.heap.size = w0.heap.size + 1 by rw [← h3, World.size_setCell, HS2.out])
  obtain ⟨yl, hyl⟩ : ∃ b, y.isList = b := ⟨_, rfl⟩
  obtain ⟨yt, hyt⟩ : ∃ b, y.text = b := ⟨_, rfl⟩
  have hrr := HRR.out
  rw [show emptyI y = (!yl && yt.isEmpty) from by unfold emptyI; rw [hyl, hyt]] at hrr
  have HR2 := Lib.hid hrr
  have HYL := Lib.hid hyl
  have HYT := Lib.hid hyt
  rw [hyl, hyt] at HN3 ⊢
  clear h3 HN2 HW2 HT2 HC hyl hyt hrr HRR c0 d0
  have b0 : Below w3.heap.size w3 w3.drew := (Below.refl _ _).drew
  have hzt := HT3.out
  have e0 := hzt.cell (j := 0) rfl
  have e1 := hzt.cell (j := 1) rfl
  have e2 := hzt.cell (j := 2) rfl
  have f0 := hzt.frozen 0
  have f1 := hzt.frozen 1
  have f2 := hzt.frozen 2
  clear hzt
  have ne1 : w0.heap.size ≠ w.heap.size + 1 := by have := HSZ.out; omega
  cases yl with
  | true =>
    refine wp_region_held_drew (S := (fun W => W.cell? ⟨w0.heap.size, 0, none⟩ = some (.bool true) ∧ W.cell? ⟨w0.heap.size, 1, none⟩ = some (.string ⟨yt.toArray⟩) ∧ W.cell? ⟨w0.heap.size, 2, none⟩ = some (.slice yp yn yc))) (by kernel_rfl) (⟨HN3.out.cell (j := 0) rfl, HN3.out.cell (j := 1) rfl, HN3.out.cell (j := 2) rfl⟩) (fun hHeld => ?_)
    refine wpAnyH_take (i := 0) (v := ?_) rfl (by kernel_rfl) (by kernel_rfl) (by kernel_rfl) (fun _ _ _ h => h) (.inl ⟨by rfl, ?_⟩) (by assumption) ?_
    rotate_left 1
    · intro w0 hSw
      obtain ⟨z0, z1, z2⟩ := hSw
      go_simp <;> with_reducible rfl
    try simp only [Act.put, zq1, zq2, zq4, zq5, zq6]
    refine wpAnyH_take (i := 1) (v := ?_) rfl (by kernel_rfl) (by kernel_rfl) (by kernel_rfl) (fun _ _ _ h => h) (.inl ⟨by rfl, ?_⟩) (by assumption) ?_
    rotate_left 1
    · intro w0 hSw
      go_simp <;> with_reducible rfl
    try simp only [Act.put, zq1, zq2, zq3, zq4, zq5, zq6]
    refine wpAnyH_take (i := 2) (v := ?_) rfl (by kernel_rfl) (by kernel_rfl) (by kernel_rfl) (fun _ _ _ h => h) (.inl ⟨by rfl, ?_⟩) (by assumption) ?_
    rotate_left 1
    · intro w0 hSw
      obtain ⟨z0, z1, z2⟩ := hSw
      go_simp <;> with_reducible rfl
    try simp only [Act.put, zq1, zq2, zq3, zq4, zq5, zq6]
    refine wpAnyH_take (i := 3) (v := ?_) rfl (by kernel_rfl) (by kernel_rfl) (by kernel_rfl) (fun _ _ _ h => h) (.inl ⟨by rfl, ?_⟩) (by assumption) ?_
    rotate_left 1
    · intro w0 hSw
      go_simp <;> with_reducible rfl
    try simp only [Act.put, zq1, zq2, zq3, zq4, zq5, zq6]
    refine wpAnyH_take (i := 4) (v := undef) rfl (by kernel_rfl) (by kernel_rfl) (by kernel_rfl) (fun _ _ _ h => h) (.inr ⟨by rfl, rfl⟩) (by assumption) ?_
    try simp only [Act.put, zq1, zq2, zq3, zq4, zq5, zq6]
    refine wpAnyH_take (i := 5) (v := undef) rfl (by kernel_rfl) (by kernel_rfl) (by kernel_rfl) (fun _ _ _ h => h) (.inr ⟨by rfl, rfl⟩) (by assumption) ?_
    try simp only [Act.put, zq1, zq2, zq3, zq4, zq5, zq6]
    refine wpAnyH_take (i := 6) (v := undef) rfl (by kernel_rfl) (by kernel_rfl) (by kernel_rfl) (fun _ _ _ h => h) (.inr ⟨by rfl, rfl⟩) (by assumption) ?_
    try simp only [Act.put, zq1, zq2, zq3, zq4, zq5, zq6]
    refine wpAnyH_take (i := 7) (v := ?_) rfl (by kernel_rfl) (by kernel_rfl) (by kernel_rfl) (fun _ _ _ h => h) (.inl ⟨by rfl, ?_⟩) (by assumption) ?_
    rotate_left 1
    · intro w0 hSw
      go_simp <;> with_reducible rfl
    try simp only [Act.put, zq1, zq2, zq3, zq4, zq5, zq6]
    refine wpAnyH_ready (rs := [8]) (by kernel_rfl) (by simp) ?_
    refine AllReadyH.cons rfl (fun K hK => ?_) AllReadyH.nil
    go_simp
    refine hK.out _ _ (⟨three_other hHeld.1 ne1 _ _ _, three_other hHeld.2.1 ne1 _ _ _, three_other hHeld.2.2 ne1 _ _ _⟩) (fun hHeld => ?_)
    clear hK K
    try simp only [Act.put, zq1, zq2, zq3, zq4, zq5, zq6]
    refine wpAnyH_take (i := 9) (v := ?_) rfl (by kernel_rfl) (by kernel_rfl) (by kernel_rfl) (fun _ _ _ h => h) (.inl ⟨by rfl, ?_⟩) (by assumption) ?_
    rotate_left 1
    · intro w0 hSw
      go_simp <;> with_reducible rfl
    try simp only [Act.put, zq1, zq2, zq3, zq4, zq5, zq6]
    refine wpAnyH_done (by kernel_rfl) ?_ 0
    go_wp2_with fail
    have hf := ((HT3.out.set 0 (.bool true)).set 1 (.string ⟨yt.toArray⟩)).set 2 (.slice yp yn yc)
    refine bodyPost_ret (results_cells2 rfl _ _ (w.heap.size + 1) [.bool true, .string ⟨yt.toArray⟩, .slice yp yn yc] _ (by rfl) (HasCells.kept hf rfl).range Tryz.underlying46 rfl infoItemS) rfl ?_
    rw [← HR2.out]
    have hu := HU3.out.above (Below.drew (three_at (Below.refl w.heap.size w3) (show w.heap.size ≤ w.heap.size + 1 by omega) (.bool true) (.string ⟨yt.toArray⟩) (.slice yp yn yc))) hB
    refine ⟨hu, ?_⟩
    exact ⟨yp, yn, yc, by rw [HYL.out, HYT.out]; rfl, RZ.upd HV.out hu HWW.out ⟨_, _, _, rfl⟩, HasCells.kept (HW3.out.threeOther (show wb ≠ w.heap.size + 1 by omega) _ _ _) rfl⟩
  | false =>
    cases yt with
    | nil =>
      refine wp_region_held_drew (S := (fun W => W.cell? ⟨w0.heap.size, 0, none⟩ = some (.bool false) ∧ W.cell? ⟨w0.heap.size, 1, none⟩ = some (.string ⟨#[]⟩) ∧ W.cell? ⟨w0.heap.size, 2, none⟩ = some (.slice yp yn yc))) (by kernel_rfl) (⟨HN3.out.cell (j := 0) rfl, HN3.out.cell (j := 1) rfl, HN3.out.cell (j := 2) rfl⟩) (fun hHeld => ?_)
      refine wpAnyH_take (i := 0) (v := ?_) rfl (by kernel_rfl) (by kernel_rfl) (by kernel_rfl) (fun _ _ _ h => h) (.inl ⟨by rfl, ?_⟩) (by assumption) ?_
      rotate_left 1
      · intro w0 hSw
        obtain ⟨z0, z1, z2⟩ := hSw
        go_simp <;> with_reducible rfl
      try simp only [Act.put, zq1, zq2, zq4, zq5, zq6]
      refine wpAnyH_take (i := 1) (v := ?_) rfl (by kernel_rfl) (by kernel_rfl) (by kernel_rfl) (fun _ _ _ h => h) (.inl ⟨by rfl, ?_⟩) (by assumption) ?_
      rotate_left 1
      · intro w0 hSw
        go_simp <;> with_reducible rfl
      try simp only [Act.put, zq1, zq2, zq3, zq4, zq5, zq6]
      refine wpAnyH_take (i := 2) (v := ?_) rfl (by kernel_rfl) (by kernel_rfl) (by kernel_rfl) (fun _ _ _ h => h) (.inl ⟨by rfl, ?_⟩) (by assumption) ?_
      rotate_left 1
      · intro w0 hSw
        obtain ⟨z0, z1, z2⟩ := hSw
        go_simp <;> with_reducible rfl
      try simp only [Act.put, zq1, zq2, zq3, zq4, zq5, zq6]
      refine wpAnyH_take (i := 3) (v := ?_) rfl (by kernel_rfl) (by kernel_rfl) (by kernel_rfl) (fun _ _ _ h => h) (.inl ⟨by rfl, ?_⟩) (by assumption) ?_
      rotate_left 1
      · intro w0 hSw
        go_simp <;> with_reducible rfl
      try simp only [Act.put, zq1, zq2, zq3, zq4, zq5, zq6]
      refine wpAnyH_take (i := 4) (v := ?_) rfl (by kernel_rfl) (by kernel_rfl) (by kernel_rfl) (fun _ _ _ h => h) (.inl ⟨by rfl, ?_⟩) (by assumption) ?_
      rotate_left 1
      · intro w0 hSw
        go_simp <;> with_reducible rfl
      try simp only [Act.put, zq1, zq2, zq3, zq4, zq5, zq6]
      refine wpAnyH_take (i := 5) (v := ?_) rfl (by kernel_rfl) (by kernel_rfl) (by kernel_rfl) (fun _ _ _ h => h) (.inl ⟨by rfl, ?_⟩) (by assumption) ?_
      rotate_left 1
      · intro w0 hSw
        obtain ⟨z0, z1, z2⟩ := hSw
        go_simp <;> with_reducible rfl
      try simp only [Act.put, zq1, zq2, zq3, zq4, zq5, zq6]
      refine wpAnyH_take (i := 6) (v := ?_) rfl (by kernel_rfl) (by kernel_rfl) (by kernel_rfl) (fun _ _ _ h => h) (.inl ⟨by rfl, ?_⟩) (by assumption) ?_
      rotate_left 1
      · intro w0 hSw
        go_simp <;> with_reducible rfl
      try simp only [Act.put, zq1, zq2, zq3, zq4, zq5, zq6]
      refine wpAnyH_take (i := 7) (v := ?_) rfl (by kernel_rfl) (by kernel_rfl) (by kernel_rfl) (fun _ _ _ h => h) (.inl ⟨by rfl, ?_⟩) (by assumption) ?_
      rotate_left 1
      · intro w0 hSw
        go_simp <;> with_reducible rfl
      try simp only [Act.put, zq1, zq2, zq3, zq4, zq5, zq6]
      refine wpAnyH_ready (rs := [8]) (by kernel_rfl) (by simp) ?_
      refine AllReadyH.cons rfl (fun K hK => ?_) AllReadyH.nil
      go_simp
      refine hK.out _ _ (⟨three_other hHeld.1 ne1 _ _ _, three_other hHeld.2.1 ne1 _ _ _, three_other hHeld.2.2 ne1 _ _ _⟩) (fun hHeld => ?_)
      clear hK K
      try simp only [Act.put, zq1, zq2, zq3, zq4, zq5, zq6]
      refine wpAnyH_take (i := 9) (v := ?_) rfl (by kernel_rfl) (by kernel_rfl) (by kernel_rfl) (fun _ _ _ h => h) (.inl ⟨by rfl, ?_⟩) (by assumption) ?_
      rotate_left 1
      · intro w0 hSw
        go_simp <;> with_reducible rfl
      try simp only [Act.put, zq1, zq2, zq3, zq4, zq5, zq6]
      refine wpAnyH_done (by kernel_rfl) ?_ 0
      go_wp2_with fail
      have hf := ((HT3.out.set 0 (.bool false)).set 1 (.string ⟨#[]⟩)).set 2 (.slice yp yn yc)
      refine bodyPost_ret (results_cells2 rfl _ _ (w.heap.size + 1) [.bool false, .string ⟨#[]⟩, .slice yp yn yc] _ (by rfl) (HasCells.kept hf rfl).range Tryz.underlying46 rfl infoItemS) rfl ?_
      rw [← HR2.out]
      have hu := HU3.out.above (Below.drew (three_at (Below.refl w.heap.size w3) (show w.heap.size ≤ w.heap.size + 1 by omega) (.bool false) (.string ⟨#[]⟩) (.slice yp yn yc))) hB
      refine ⟨hu, ?_⟩
      exact ⟨_, _, _, _, _, _, by rfl, HasCells.kept (HW3.out.threeOther (show wb ≠ w.heap.size + 1 by omega) _ _ _) rfl⟩
    | cons a ar =>
      refine wp_region_held_drew (S := (fun W => W.cell? ⟨w0.heap.size, 0, none⟩ = some (.bool false) ∧ W.cell? ⟨w0.heap.size, 1, none⟩ = some (.string ⟨(a :: ar).toArray⟩) ∧ W.cell? ⟨w0.heap.size, 2, none⟩ = some (.slice yp yn yc))) (by kernel_rfl) (⟨HN3.out.cell (j := 0) rfl, HN3.out.cell (j := 1) rfl, HN3.out.cell (j := 2) rfl⟩) (fun hHeld => ?_)
      refine wpAnyH_take (i := 0) (v := ?_) rfl (by kernel_rfl) (by kernel_rfl) (by kernel_rfl) (fun _ _ _ h => h) (.inl ⟨by rfl, ?_⟩) (by assumption) ?_
      rotate_left 1
      · intro w0 hSw
        obtain ⟨z0, z1, z2⟩ := hSw
        go_simp <;> with_reducible rfl
      try simp only [Act.put, zq1, zq2, zq4, zq5, zq6]
      refine wpAnyH_take (i := 1) (v := ?_) rfl (by kernel_rfl) (by kernel_rfl) (by kernel_rfl) (fun _ _ _ h => h) (.inl ⟨by rfl, ?_⟩) (by assumption) ?_
      rotate_left 1
      · intro w0 hSw
        go_simp <;> with_reducible rfl
      try simp only [Act.put, zq1, zq2, zq3, zq4, zq5, zq6]
      refine wpAnyH_take (i := 2) (v := ?_) rfl (by kernel_rfl) (by kernel_rfl) (by kernel_rfl) (fun _ _ _ h => h) (.inl ⟨by rfl, ?_⟩) (by assumption) ?_
      rotate_left 1
      · intro w0 hSw
        obtain ⟨z0, z1, z2⟩ := hSw
        go_simp <;> with_reducible rfl
      try simp only [Act.put, zq1, zq2, zq3, zq4, zq5, zq6]
      refine wpAnyH_take (i := 3) (v := ?_) rfl (by kernel_rfl) (by kernel_rfl) (by kernel_rfl) (fun _ _ _ h => h) (.inl ⟨by rfl, ?_⟩) (by assumption) ?_
      rotate_left 1
      · intro w0 hSw
        go_simp <;> with_reducible rfl
      try simp only [Act.put, zq1, zq2, zq3, zq4, zq5, zq6]
      refine wpAnyH_take (i := 4) (v := ?_) rfl (by kernel_rfl) (by kernel_rfl) (by kernel_rfl) (fun _ _ _ h => h) (.inl ⟨by rfl, ?_⟩) (by assumption) ?_
      rotate_left 1
      · intro w0 hSw
        go_simp <;> with_reducible rfl
      try simp only [Act.put, zq1, zq2, zq3, zq4, zq5, zq6]
      refine wpAnyH_take (i := 5) (v := ?_) rfl (by kernel_rfl) (by kernel_rfl) (by kernel_rfl) (fun _ _ _ h => h) (.inl ⟨by rfl, ?_⟩) (by assumption) ?_
      rotate_left 1
      · intro w0 hSw
        obtain ⟨z0, z1, z2⟩ := hSw
        go_simp <;> with_reducible rfl
      try simp only [Act.put, zq1, zq2, zq3, zq4, zq5, zq6]
      refine wpAnyH_take (i := 6) (v := ?_) rfl (by kernel_rfl) (by kernel_rfl) (by kernel_rfl) (fun _ _ _ h => h) (.inl ⟨by rfl, ?_⟩) (by assumption) ?_
      rotate_left 1
      · intro w0 hSw
        go_simp <;> with_reducible rfl
      try simp only [Act.put, zq1, zq2, zq3, zq4, zq5, zq6]
      refine wpAnyH_take (i := 7) (v := ?_) rfl (by kernel_rfl) (by kernel_rfl) (by kernel_rfl) (fun _ _ _ h => h) (.inl ⟨by rfl, ?_⟩) (by assumption) ?_
      rotate_left 1
      · intro w0 hSw
        go_simp <;> with_reducible rfl
      try simp only [Act.put, zq1, zq2, zq3, zq4, zq5, zq6]
      refine wpAnyH_ready (rs := [8]) (by kernel_rfl) (by simp) ?_
      refine AllReadyH.cons rfl (fun K hK => ?_) AllReadyH.nil
      go_simp
      refine hK.out _ _ (⟨three_other hHeld.1 ne1 _ _ _, three_other hHeld.2.1 ne1 _ _ _, three_other hHeld.2.2 ne1 _ _ _⟩) (fun hHeld => ?_)
      clear hK K
      try simp only [Act.put, zq1, zq2, zq3, zq4, zq5, zq6]
      refine wpAnyH_take (i := 9) (v := ?_) rfl (by kernel_rfl) (by kernel_rfl) (by kernel_rfl) (fun _ _ _ h => h) (.inl ⟨by rfl, ?_⟩) (by assumption) ?_
      rotate_left 1
      · intro w0 hSw
        go_simp <;> with_reducible rfl
      try simp only [Act.put, zq1, zq2, zq3, zq4, zq5, zq6]
      refine wpAnyH_done (by kernel_rfl) ?_ 0
      go_wp2_with fail
      have hf := ((HT3.out.set 0 (.bool false)).set 1 (.string ⟨(a :: ar).toArray⟩)).set 2 (.slice yp yn yc)
      refine bodyPost_ret (results_cells2 rfl _ _ (w.heap.size + 1) [.bool false, .string ⟨(a :: ar).toArray⟩, .slice yp yn yc] _ (by rfl) (HasCells.kept hf rfl).range Tryz.underlying46 rfl infoItemS) rfl ?_
      rw [← HR2.out]
      have hu := HU3.out.above (Below.drew (three_at (Below.refl w.heap.size w3) (show w.heap.size ≤ w.heap.size + 1 by omega) (.bool false) (.string ⟨(a :: ar).toArray⟩) (.slice yp yn yc))) hB
      refine ⟨hu, ?_⟩
      exact ⟨yp, yn, yc, by rw [HYL.out, HYT.out]; rfl, RZ.upd HV.out hu HWW.out ⟨_, _, _, rfl⟩, HasCells.kept (HW3.out.threeOther (show wb ≠ w.heap.size + 1 by omega) _ _ _) rfl⟩
end Go.Proofs.YthicdhnjincflaaGreatDoor
/- Contract of the walk's step at a list of two. -/
namespace Go.Proofs.YthicdhnjincflaaGreatDoor
open Go.RowKit Go.Shelf Go.Lib
attribute [local go_sem] Oper.semAt_some
theorem cut_l {path rp tp : List UInt8} {hp : Bool} (h1 : Lib.trimPrefix path rp = tp) (h2 : Lib.hasPrefix path rp = hp) (w : World) :
    Calls Tryz.prog 24 #[.string ⟨path.toArray⟩, .string ⟨rp.toArray⟩] w fun e w' => e = .returned (.tuple #[.string ⟨tp.toArray⟩, .bool hp]) ∧ w' = w := by
  subst h1 h2
  exact Tryz.strings_CutPrefix ⟨path.toArray⟩ ⟨rp.toArray⟩ w
theorem cut_all {path rp tp : List UInt8} {hp : Bool} (h1 : Lib.trimPrefix path rp = tp) (h2 : Lib.hasPrefix path rp = hp) : (rp = path) ↔ (hp = true ∧ tp = []) := by
  subst h1 h2
  unfold Lib.trimPrefix Lib.hasPrefix
  constructor
  · rintro rfl
    have h : rp.isPrefixOf rp = true := List.isPrefixOf_iff_prefix.2 (List.prefix_refl _)
    rw [if_pos h]
    exact ⟨h, by simp⟩
  · rintro ⟨h, h3⟩
    rw [if_pos h] at h3
    obtain ⟨s, rfl⟩ := List.isPrefixOf_iff_prefix.1 h
    have : s = [] := by simpa using h3
    rw [this, List.append_nil]
theorem cut_way {path rp tp : List UInt8} {hp : Bool} (h1 : Lib.trimPrefix path rp = tp) (h2 : Lib.hasPrefix path rp = hp) (y : Item) : (if rp.isPrefixOf path then Way.next y (path.drop rp.length) else Way.stop []) = if hp then .next y tp else .stop [] := by
  subst h1 h2
  unfold Lib.trimPrefix Lib.hasPrefix
  cases rp.isPrefixOf path <;> simp
set_option maxRecDepth 100000 in
set_option maxHeartbeats 6400000 in
theorem walkStep_two (B wb z : Nat) (x : Item) (p : Option Addr) (c : Nat) (path : List UInt8) (pp : Option Addr) (pn pc : Nat) (w : World) (hB : B ≤ w.heap.size) (hBw : B ≤ wb) (hl : x.isList = true) (h2 : x.list.length = 2) (hsm : Small x) (hr : RZ z w (.slice p 2 c) x.list)
    (hw : HasCells w wb [.string ⟨path.toArray⟩, .slice pp pn pc, .string ⟨#[]⟩] 56) :
    Calls Tryz.prog 28 #[.pointer (some ⟨wb, 0, none⟩), .agg #[.bool x.isList, .string ⟨x.text.toArray⟩, .slice p 2 c]] w (StepRes B wb z (.slice pp pn pc) (stepP x path) w) := by
  obtain ⟨y0, y1, hxl⟩ : ∃ a b, x.list = [a, b] := by
    match hl : x.list, h2 with
    | [a, b], _ => exact ⟨a, b, rfl⟩
  have h0l := (hsm.child (y := y0) (by rw [hxl]; simp)).1.text
  obtain ⟨rr, hrr⟩ : ∃ r, stepP x path = r := ⟨_, rfl⟩
  rw [hrr]
  rw [show stepP x path = if (read y0.text).2.1 then .stop (if (read y0.text).1 = path then y1.text else []) else if (read y0.text).1.isPrefixOf path then .next y1 (path.drop (read y0.text).1.length) else .stop [] from by unfold stepP; rw [if_neg (by omega), hxl]; rfl] at hrr
  rw [hxl] at hr
  have hr0 : ReadsIn w (fun g => (g < w.heap.size ∧ g ≠ z) ∧ g ≠ wb) _ _ := ReadsIn.otherW hr hw ⟨_, _, _, rfl⟩
  obtain ⟨-, g, o, rfl, hg, hat⟩ := ReadsIn.at hr0 (by decide)
  obtain ⟨⟨hg, -⟩, hgw⟩ := hg
  obtain ⟨-, a01, -⟩ := hat 0 y0 rfl
  obtain ⟨a10, a11, v1, a12, hv1⟩ := hat 1 y1 rfl
  obtain ⟨q1, n1, rfl⟩ := ReadsIn.form hv1
  simp only [Nat.zero_mul, Nat.one_mul, Nat.add_zero, Nat.add_assoc, Nat.reduceAdd] at a01 a10 a11 a12
  obtain ⟨y0t, hy0t⟩ : ∃ t, y0.text = t := ⟨_, rfl⟩
  obtain ⟨yn, hyn⟩ : ∃ n, y1.list.length = n := ⟨_, rfl⟩
  rw [hyn] at a12 hv1
  rw [hy0t] at a01 h0l hrr
  have hrd := read_any ⟨y0t.toArray⟩
  rw [show (⟨y0t.toArray⟩ : ByteArray).data.toList = y0t from rfl] at hrd
  obtain ⟨rp, lf, er, hre⟩ : ∃ a b c, read y0t = (a, b, c) := ⟨_, _, _, rfl⟩
  rw [readV_of hre] at hrd
  rw [hre] at hrr
  dsimp only at hrr
  have H1 := Lib.hid (fun W => hrd W (by show y0t.length ≤ _; omega))
  obtain ⟨tp, htp⟩ : ∃ l, Lib.trimPrefix path rp = l := ⟨_, rfl⟩
  obtain ⟨hp, hhp⟩ : ∃ l, Lib.hasPrefix path rp = l := ⟨_, rfl⟩
  rw [cut_way htp hhp] at hrr
  have HALL := Lib.hid (cut_all htp hhp)
  have H2 := Lib.hid (fun W => cut_l htp hhp W)
  have HRR := Lib.hid hrr
  have HV := Lib.hid (hv1.mono (fun g hg => hg.1) : RZ z w _ _)
  have HWW := Lib.hid hw
  clear hrr hyn hat hr hr0 hre hrd htp hhp hxl hsm h2 hy0t
  have hlo := laid2 w (.cells #[.bool x.isList, .string ⟨x.text.toArray⟩, .slice (some ⟨g, o, none⟩) 2 c] 46) (.cells itemZ.toArray 46)
  have hq0 := (HasCells.new w [.bool x.isList, .string ⟨x.text.toArray⟩, .slice (some ⟨g, o, none⟩) 2 c] 46).alloc (.cells itemZ.toArray 46)
  have hz0 : HasCells ((w.alloc (.cells #[.bool x.isList, .string ⟨x.text.toArray⟩, .slice (some ⟨g, o, none⟩) 2 c] 46)).alloc (.cells itemZ.toArray 46)) (w.heap.size + 1) itemZ 46 := by
    have h := HasCells.new (w.alloc (.cells #[.bool x.isList, .string ⟨x.text.toArray⟩, .slice (some ⟨g, o, none⟩) 2 c] 46)) itemZ 46
    rwa [World.size_alloc] at h
  obtain ⟨w0, hw0⟩ : ∃ W, (w.alloc (.cells #[.bool x.isList, .string ⟨x.text.toArray⟩, .slice (some ⟨g, o, none⟩) 2 c] 46)).alloc (.cells itemZ.toArray 46) = W := ⟨_, rfl⟩
  have hsz0 : w0.heap.size = w.heap.size + 2 := by rw [← hw0]; simp
  rw [show (w.alloc (.cells ([.bool x.isList, .string ⟨x.text.toArray⟩, .slice (some ⟨g, o, none⟩) 2 c] : List Value).toArray 46)).alloc (.cells itemZ.toArray 46) = w0 from hw0] at hq0
  rw [hw0] at hz0 hlo
  have hw00 := hw.after hlo
  have hwb := hw.lt
  obtain ⟨t, htt⟩ : ∃ t, x.text = t := ⟨_, rfl⟩
  have HW0 := Lib.hid (show (w.alloc (.cells #[.bool true, .string ⟨t.toArray⟩, .slice (some ⟨g, o, none⟩) 2 c] 46)).alloc (.cells #[.bool false, .string ⟨#[]⟩, .slice none 0 0] 46) = w0 from by have hw1 := hw0; rw [hl, htt] at hw1; exact hw1)
  rw [hl, htt] at hq0 ⊢
  have HWC0 := Lib.hid hw00
  have HLO := Lib.hid hlo
  have HQ0 := Lib.hid hq0
  have HZ0 := Lib.hid hz0
  have HSZ := Lib.hid hsz0
  clear hl hw hlo hw0 hq0 hz0 htt hw00 hsz0
  have HC := Lib.hid (fun W (hb : Below w0.heap.size w0 W) => (show W.cell? ⟨g, o + 1, none⟩ = some (.string ⟨y0t.toArray⟩) ∧ W.cell? ⟨g, o + 3, none⟩ = some (.bool y1.isList) ∧ W.cell? ⟨g, o + 4, none⟩ = some (.string ⟨y1.text.toArray⟩) ∧ W.cell? ⟨g, o + 5, none⟩ = some (.slice q1 yn n1) from
    ⟨((hb.cell (p := ⟨g, o + 1, none⟩) (Nat.lt_of_lt_of_le hg HLO.out.size)).trans (HLO.out.cell (p := ⟨g, o + 1, none⟩) hg)).trans a01,
      ((hb.cell (p := ⟨g, o + 3, none⟩) (Nat.lt_of_lt_of_le hg HLO.out.size)).trans (HLO.out.cell (p := ⟨g, o + 3, none⟩) hg)).trans a10,
      ((hb.cell (p := ⟨g, o + 4, none⟩) (Nat.lt_of_lt_of_le hg HLO.out.size)).trans (HLO.out.cell (p := ⟨g, o + 4, none⟩) hg)).trans a11,
      ((hb.cell (p := ⟨g, o + 5, none⟩) (Nat.lt_of_lt_of_le hg HLO.out.size)).trans (HLO.out.cell (p := ⟨g, o + 5, none⟩) hg)).trans a12⟩))
  obtain ⟨c1, c3, c4, c5⟩ := HC.out _ (Below.refl _ _)
  have q2 := HQ0.out.cell (j := 2) rfl
  clear a01 a10 a11 a12 hv1
  go_enter Tryz.func28, Tryz.ntmps28
  go_wp2_with (rw [HW0.out])
  clear c1 c3 c4 c5 q2
  refine (H1.out _).mono ?_
  rintro e w1 ⟨rfl, hb1⟩
  have HW1 := Lib.hid (HWC0.out.after hb1)
  have HQ1 := Lib.hid (HQ0.out.after hb1)
  have HZ1 := Lib.hid (HZ0.out.after hb1)
  have HL1 := Lib.hid (HLO.out.trans (hb1.mono HLO.out.size))
  have c0 := HW1.out.cell (j := 0) rfl
  go_wp2_with fail
  refine (H2.out _).mono ?_
  rintro e w2 ⟨rfl, rfl⟩
  obtain ⟨-, c3, c4, c5⟩ := HC.out _ hb1
  have d0 := HW1.out.frozen 0
  have c2 := HW1.out.cell (j := 2) rfl
  have d2 := HW1.out.frozen 2
  have q2 := HQ1.out.cell (j := 2) rfl
  have f0 := HZ1.out.frozen 0
  have f1 := HZ1.out.frozen 1
  have f2 := HZ1.out.frozen 2
  have e0 := HZ1.out.cell (j := 0) rfl
  have e1 := HZ1.out.cell (j := 1) rfl
  have e2 := HZ1.out.cell (j := 2) rfl
  have m1 : ¬ wb = w.heap.size + 1 := by omega
  have m2 : ¬ w.heap.size + 1 = wb := by omega
  have m3 : ¬ wb = g := fun e => hgw e.symm
  have m4 : ¬ g = wb := hgw
  have m5 : ¬ wb = w.heap.size := by omega
  have m6 : ¬ w.heap.size = wb := by omega
  clear hb1 HC
  cases lf with
  | true =>
    cases hp with
    | false =>
      go_wp2_with fail
      have hf := ((HZ1.out.set 0 (.bool false)).set 1 (.string ⟨#[]⟩)).set 2 (.slice none 0 0)
      refine bodyPost_ret (results_cells2 rfl _ _ (w.heap.size + 1) [.bool false, .string ⟨#[]⟩, .slice none 0 0] _ (by rfl) (HasCells.kept hf rfl).range Tryz.underlying46 rfl infoItemS) rfl ?_
      have hrr : rr = .stop [] := by
        rw [← HRR.out]
        rw [if_pos trivial, if_neg (fun e => by have h := HALL.out.1 e; simp at h)]
      rw [hrr]
      have hu := Upd.above (wb := wb) (Upd.of_below HL1.out hB) (three_at (Below.refl w.heap.size _) (show w.heap.size ≤ w.heap.size + 1 by omega) (.bool false) (.string ⟨#[]⟩) (.slice none 0 0)) hB
      have hwf := HW1.out.threeOther m1 (.bool false) (.string ⟨#[]⟩) (.slice none 0 0)
      exact ⟨hu, false, _, _, _, _, ⟨path.toArray⟩, by rfl, hwf⟩
    | true =>
      cases tp with
      | nil =>
        go_wp2_with fail
        have hf := (((HZ1.out.setOther (i := 2) m2 (.string ⟨y1.text.toArray⟩)).set 0 (.bool false)).set 1 (.string ⟨#[]⟩)).set 2 (.slice none 0 0)
        refine bodyPost_ret (results_cells2 rfl _ _ (w.heap.size + 1) [.bool false, .string ⟨#[]⟩, .slice none 0 0] _ (by rfl) (HasCells.kept hf rfl).range Tryz.underlying46 rfl infoItemS) rfl ?_
        have hrr : rr = .stop y1.text := by
          rw [← HRR.out]
          rw [if_pos trivial, if_pos (HALL.out.2 (by simp))]
        rw [hrr]
        have hu := Upd.above ((Upd.of_below HL1.out hB).trans (Upd.set _ hBw 2 (.string ⟨y1.text.toArray⟩))) (three_at (Below.refl w.heap.size _) (show w.heap.size ≤ w.heap.size + 1 by omega) (.bool false) (.string ⟨#[]⟩) (.slice none 0 0)) hB
        have hwf := (HW1.out.set 2 (.string ⟨y1.text.toArray⟩)).threeOther m1 (.bool false) (.string ⟨#[]⟩) (.slice none 0 0)
        exact ⟨hu, false, _, _, _, _, ⟨path.toArray⟩, by rfl, hwf⟩
      | cons a ar =>
        go_wp2_with fail
        have hf := ((HZ1.out.set 0 (.bool false)).set 1 (.string ⟨#[]⟩)).set 2 (.slice none 0 0)
        refine bodyPost_ret (results_cells2 rfl _ _ (w.heap.size + 1) [.bool false, .string ⟨#[]⟩, .slice none 0 0] _ (by rfl) (HasCells.kept hf rfl).range Tryz.underlying46 rfl infoItemS) rfl ?_
        have hrr : rr = .stop [] := by
          rw [← HRR.out]
          rw [if_pos trivial, if_neg (fun e => by have h := HALL.out.1 e; simp at h)]
        rw [hrr]
        have hu := Upd.above (wb := wb) (Upd.of_below HL1.out hB) (three_at (Below.refl w.heap.size _) (show w.heap.size ≤ w.heap.size + 1 by omega) (.bool false) (.string ⟨#[]⟩) (.slice none 0 0)) hB
        have hwf := HW1.out.threeOther m1 (.bool false) (.string ⟨#[]⟩) (.slice none 0 0)
        exact ⟨hu, false, _, _, _, _, ⟨path.toArray⟩, by rfl, hwf⟩
  | false =>
    cases hp with
    | false =>
      go_wp2_with fail
      have hf := (((HZ1.out.setOther (i := 0) m2 (.string ⟨tp.toArray⟩)).set 0 (.bool y1.isList)).set 1 (.string ⟨y1.text.toArray⟩)).set 2 (.slice q1 yn n1)
      refine bodyPost_ret (results_cells2 rfl _ _ (w.heap.size + 1) [.bool y1.isList, .string ⟨y1.text.toArray⟩, .slice q1 yn n1] _ (by rfl) (HasCells.kept hf rfl).range Tryz.underlying46 rfl infoItemS) rfl ?_
      have hrr : rr = .stop [] := by
        rw [← HRR.out]
        rw [if_neg (by simp), if_neg (by simp)]
      rw [hrr]
      have hu := Upd.above ((Upd.of_below HL1.out hB).trans (Upd.set _ hBw 0 (.string ⟨tp.toArray⟩))) (three_at (Below.refl w.heap.size _) (show w.heap.size ≤ w.heap.size + 1 by omega) (.bool y1.isList) (.string ⟨y1.text.toArray⟩) (.slice q1 yn n1)) hB
      have hwf := (HW1.out.set 0 (.string ⟨tp.toArray⟩)).threeOther m1 (.bool y1.isList) (.string ⟨y1.text.toArray⟩) (.slice q1 yn n1)
      exact ⟨hu, y1.isList, _, _, _, _, ⟨tp.toArray⟩, by rfl, hwf⟩
    | true =>
      go_wp2_with fail
      have hf := (((HZ1.out.setOther (i := 0) m2 (.string ⟨tp.toArray⟩)).set 0 (.bool y1.isList)).set 1 (.string ⟨y1.text.toArray⟩)).set 2 (.slice q1 yn n1)
      refine bodyPost_ret (results_cells2 rfl _ _ (w.heap.size + 1) [.bool y1.isList, .string ⟨y1.text.toArray⟩, .slice q1 yn n1] _ (by rfl) (HasCells.kept hf rfl).range Tryz.underlying46 rfl infoItemS) rfl ?_
      have hrr : rr = .next y1 tp := by
        rw [← HRR.out]
        rw [if_neg (by simp), if_pos trivial]
      rw [hrr]
      have hu := Upd.above ((Upd.of_below HL1.out hB).trans (Upd.set _ hBw 0 (.string ⟨tp.toArray⟩))) (three_at (Below.refl w.heap.size _) (show w.heap.size ≤ w.heap.size + 1 by omega) (.bool y1.isList) (.string ⟨y1.text.toArray⟩) (.slice q1 yn n1)) hB
      have hwf := (HW1.out.set 0 (.string ⟨tp.toArray⟩)).threeOther m1 (.bool y1.isList) (.string ⟨y1.text.toArray⟩) (.slice q1 yn n1)
      exact ⟨hu, q1, yn, n1, by rfl, RZ.upd HV.out hu HWW.out ⟨_, _, _, rfl⟩, hwf⟩
theorem walkStep_any (B wb z : Nat) (x : Item) (p : Option Addr) (n c : Nat) (path : List UInt8) (pp : Option Addr) (pn pc : Nat) (w : World) (hB : B ≤ w.heap.size) (hBw : B ≤ wb) (hx : isNodeP x = true) (hsm : Small x) (hpath : isPath path = true) (hlen : path.length ≤ 1099511627776) (hr : RZ z w (.slice p n c) x.list)
    (hw : HasCells w wb [.string ⟨path.toArray⟩, .slice pp pn pc, .string ⟨#[]⟩] 56) :
    Calls Tryz.prog 28 #[.pointer (some ⟨wb, 0, none⟩), .agg #[.bool x.isList, .string ⟨x.text.toArray⟩, .slice p n c]] w (StepRes B wb z (.slice pp pn pc) (stepP x path) w) := by
  rw [isNodeP_eq, Bool.and_eq_true] at hx
  obtain ⟨hl, hx⟩ := hx
  obtain ⟨p2, c2, e⟩ := ReadsIn.form hr
  cases e
  by_cases h17 : x.list.length = 17
  · rw [h17] at hr ⊢
    cases path with
    | nil => exact walkStep_end B wb z x p c pp pn pc w hB hBw hl h17 hr hw
    | cons a r =>
      have ha : a.toNat ≤ 15 := by
        unfold isPath at hpath
        rw [List.all_cons, Bool.and_eq_true] at hpath
        exact of_decide_eq_true hpath.1
      exact walkStep_half B wb z x p c a r pp pn pc w hB hBw hl h17 ha (by simp at hlen; omega) hr hw
  · rw [if_neg h17, Bool.and_eq_true] at hx
    have h2 := of_decide_eq_true hx.1
    rw [h2] at hr ⊢
    exact walkStep_two B wb z x p c path pp pn pc w hB hBw hl h2 hsm hr hw
end Go.Proofs.YthicdhnjincflaaGreatDoor

namespace Go.Proofs.YthicdhnjincflaaGreatDoor
open Go.RowKit Go.Shelf Go.Lib
attribute [local go_sem] Oper.semAt_some
theorem Strs.cell {w : World} {p : Option Addr} {n c : Nat} {xs : List ByteArray} (h : Strs w (.slice p n c) xs) (hne : xs ≠ []) : ∃ bk o, p = some ⟨bk, o, none⟩ ∧ bk < w.heap.size ∧ ∀ (j : Nat) x, xs[j]? = some x → w.cell? ⟨bk, o + j, none⟩ = some (.string x) := by
  obtain ⟨p', c', hv, _, h⟩ := h
  cases hv
  rcases h with h | h
  · exact absurd h hne
  · exact h
def FitsTo (xs : List (List UInt8)) (k : Nat) : Prop := ∀ (j : Nat) y, j < k → xs[j]? = some y → y.length ≤ 65536
theorem fits_bad {root : List UInt8} {xs : List (List UInt8)} {k : Nat} {y : List UInt8} (hy : xs[k]? = some y) (hl : ¬ y.length ≤ 65536) : sizesP root xs = false := by
  unfold sizesP
  rw [List.all_eq_false.2 ⟨y, List.mem_of_getElem? hy, by simpa using hl⟩]
  rfl
theorem fits_good {root : List UInt8} {xs : List (List UInt8)} (h : FitsTo xs xs.length) : sizesP root xs = (decide (root.length = 32) && decide (xs.length ≤ 140)) := by
  unfold sizesP
  rw [List.all_eq_true.2 (fun y hy => by
    obtain ⟨j, hj⟩ := List.getElem?_of_mem hy
    have hlt : j < xs.length := (List.getElem?_eq_some_iff.1 hj).1
    exact decide_eq_true (h j y hlt hj))]
  rfl
set_option maxRecDepth 100000 in
set_option maxHeartbeats 3200000 in
theorem fits_any (root : List UInt8) (xs : List (List UInt8)) (v : Value) (w : World) (hv : Strs w v (xs.map bt)) (hN : xs.length ≤ 1099511627776) :
    Calls Tryz.prog 25 #[.string ⟨root.toArray⟩, v] w fun e w' => e = .returned (.bool (sizesP root xs)) ∧ w' = w := by
  obtain ⟨p, c, rfl, _⟩ := id hv
  obtain ⟨rp, hrp⟩ : ∃ r, sizesP root xs = r := ⟨_, rfl⟩
  obtain ⟨n, hn⟩ : ∃ n, xs.length = n := ⟨_, rfl⟩
  rw [List.length_map] at hv
  rw [List.length_map]
  rw [hn] at hN hv
  rw [hrp, hn]
  have HR := Lib.hid hrp
  have HN := Lib.hid hn
  have HV := Lib.hid hv
  have hrs : (⟨root.toArray⟩ : ByteArray).size = root.length := rfl
  obtain ⟨rl, hrl⟩ : ∃ n, root.length = n := ⟨_, rfl⟩
  rw [hrl] at hrs
  have HRL := Lib.hid hrl
  clear hrp hn hv hrl
  go_enter Tryz.func25, Tryz.ntmps25
  go_wp2_with fail
  go_loopw [9] (fun i wr => ∃ k : Nat, k ≤ n ∧ i = .int .i64 k ∧ Aside (FitsTo xs k) ∧ wr = w) (fun i _ => n - (RowKit.intOf i).toNat)
  case atStart => exact ⟨0, Nat.zero_le _, rfl, (fun i q h => by omega), rfl⟩
  case round =>
    obtain ⟨k, hk, rfl, HOK, rfl⟩ := hrel
    have g2 : (0 : Int) ≤ k := by omega
    by_cases hlt : k < n
    · obtain ⟨x, hx⟩ : ∃ x, xs[k]? = some x := ⟨_, List.getElem?_eq_getElem (by rw [HN.out]; exact hlt)⟩
      obtain ⟨bk, ob, rfl, hbk, hcl⟩ := HV.out.cell (by intro h; have := congrArg List.length h; simp [HN.out] at this; omega)
      have c1 : wr.cell? ⟨bk, ob + k, none⟩ = some (.string ⟨x.toArray⟩) := hcl k (bt x) (by rw [List.getElem?_map, hx]; rfl)
      have HX := Lib.hid hx
      have hs1 : (⟨x.toArray⟩ : ByteArray).size = x.length := rfl
      obtain ⟨kl, hkl⟩ : ∃ n, x.length = n := ⟨_, rfl⟩
      rw [hkl] at hs1
      have HKL := Lib.hid hkl
      have g3 : (k : Int) < n := by omega
      clear hx hcl hkl
      by_cases h1 : 65536 < kl
      · have j1 : (65536 : Int) < kl := by omega
        have hf : rp = false := HR.out.symm.trans (fits_bad HX.out (by rw [HKL.out]; omega))
        subst hf
        clear h1
        go_wp2_with fail
        go_ret
        exact ⟨rfl, rfl⟩
      · have j1 : ¬ ((65536 : Int) < kl) := by omega
        have j1d : decide ((65536 : Int) < kl) = false := decide_eq_false j1
        have hstep : FitsTo xs (k + 1) := fun j y hj hy => by
          by_cases he : j = k
          · subst he
            rw [HX.out] at hy
            cases hy
            rw [HKL.out]; omega
          · exact HOK j y (by omega) hy
        have HST := Lib.hid hstep
        clear hstep h1
        go_wp2_with fail
        refine ⟨⟨k + 1, by omega, rfl, HST.out, trivial⟩, ?_⟩
        show n - ((k : Int) + 1).toNat < n - ((k : Int)).toNat
        omega
    · have hkn : k = n := by omega
      subst hkn
      have g3 : ¬ (k : Int) < k := by omega
      have hg : rp = (decide (rl = 32) && decide (k ≤ 140)) := by
        rw [← HR.out, fits_good (by rw [HN.out]; exact HOK), HRL.out, HN.out]
      clear HOK
      by_cases h1 : rl = 32
      · have j1 : (rl : Int) = 32 := by omega
        rw [decide_eq_true h1, Bool.true_and] at hg
        have j2 : decide ((k : Int) ≤ 140) = rp := by rw [hg]; exact decide_eq_decide.2 (by omega)
        have HG := Lib.hid hg
        clear hg
        go_wp2_with fail
        go_ret
        exact ⟨by rw [HG.out]; rfl, rfl⟩
      · have j1 : ¬ (rl : Int) = 32 := by omega
        rw [decide_eq_false h1, Bool.false_and] at hg
        subst hg
        go_wp2_with fail
        go_ret
        exact ⟨rfl, rfl⟩
end Go.Proofs.YthicdhnjincflaaGreatDoor
/- proof.Check: the tests ahead of the walk. -/
namespace Go.Proofs.YthicdhnjincflaaGreatDoor
open Go.RowKit Go.Shelf Go.Lib
attribute [local go_sem] Oper.semAt_some
def checkV (r : List UInt8 × Int) : Value := .tuple #[.string ⟨r.1.toArray⟩, .bool (!r.1.isEmpty), .int .i64 r.2]
set_option maxRecDepth 100000 in
set_option maxHeartbeats 6400000 in
theorem check_bad_any (root key : List UInt8) (xs : List (List UInt8)) (v : Value) (w : World) (hv : Strs w v (xs.map bt)) (hN : xs.length ≤ 1099511627776) (hb : (sizesP root xs && keyOk key) = false) :
    Calls Tryz.prog 14 #[.string ⟨root.toArray⟩, .string ⟨key.toArray⟩, v] w fun e w' => e = .returned (checkV ([], 2)) ∧ Below w.heap.size w w' := by
  have hf := fits_any root xs v w hv hN
  obtain ⟨p, c, rfl, _⟩ := id hv
  obtain ⟨sz, hsz⟩ : ∃ b, sizesP root xs = b := ⟨_, rfl⟩
  rw [hsz] at hf hb
  obtain ⟨n, hn⟩ : ∃ n, (xs.map bt).length = n := ⟨_, rfl⟩
  rw [hn] at hf ⊢
  have HF := Lib.hid hf
  have hks : (⟨key.toArray⟩ : ByteArray).size = key.length := rfl
  have HK := Lib.hid hb
  clear hf hsz hn hb hv
  cases sz with
  | false =>
    clear HK hks
    go_enter Tryz.func14, Tryz.ntmps14
    go_wp2_with fail
    refine wp_scope_straight ?_
    go_wp2_with fail
    refine HF.out.mono ?_
    rintro e w1 ⟨rfl, rfl⟩
    go_wp2_with fail
    simp only [Exit.noGoto]
    change bodyPost _ _ _ Exit.ret _ _
    go_ret3
    exact ⟨rfl, Below.refl _ _⟩
  | true =>
    have hk : keyOk key = false := by have h := HK.out; simpa using h
    cases key with
    | nil =>
      clear HK hks hk
      go_enter Tryz.func14, Tryz.ntmps14
      go_wp2_with fail
      refine wp_scope_straight ?_
      go_wp2_with fail
      refine HF.out.mono ?_
      rintro e w1 ⟨rfl, rfl⟩
      go_wp2_with fail
      simp only [Exit.noGoto]
      change bodyPost _ _ _ Exit.ret _ _
      go_ret3
      exact ⟨rfl, Below.refl _ _⟩
    | cons a r =>
      have h64 : 64 < r.length + 1 := by
        unfold keyOk at hk
        simp at hk
        omega
      have hks : (⟨(a :: r).toArray⟩ : ByteArray).size = r.length + 1 := rfl
      have j1 : (64 : Int) < (r.length : Int) + 1 := by omega
      clear HK hk h64
      go_enter Tryz.func14, Tryz.ntmps14
      go_wp2_with fail
      refine wp_scope_straight ?_
      go_wp2_with fail
      refine HF.out.mono ?_
      rintro e w1 ⟨rfl, rfl⟩
      go_wp2_with fail
      simp only [Exit.noGoto]
      change bodyPost _ _ _ Exit.ret _ _
      go_ret3
      exact ⟨rfl, Below.refl _ _⟩
set_option maxRecDepth 100000 in
set_option maxHeartbeats 6400000 in
theorem check_nought_any (root key : List UInt8) (p : Option Addr) (c : Nat) (w : World) (hK : KecT w) (hg : (sizesP root [] && keyOk key) = true) (hr : keccakL [128] = root) :
    Calls Tryz.prog 14 #[.string ⟨root.toArray⟩, .string ⟨key.toArray⟩, .slice p 0 c] w fun e w' => e = .returned (checkV ([], 0)) ∧ Below w.heap.size w w' := by
  rw [Bool.and_eq_true] at hg
  obtain ⟨h1, h2⟩ := hg
  have hf := fits_any root [] (.slice p 0 c) w ⟨p, c, rfl, Nat.zero_le _, .inl rfl⟩ (by decide)
  rw [h1] at hf
  have HF := Lib.hid hf
  have HKT := Lib.hid hK
  have HRT := Lib.hid hr
  cases key with
  | nil => simp [keyOk] at h2
  | cons a r =>
    have h64 : r.length + 1 ≤ 64 := by
      unfold keyOk at h2
      simp at h2
      omega
    have hks : (⟨(a :: r).toArray⟩ : ByteArray).size = r.length + 1 := rfl
    have j1 : ¬ (64 : Int) < (r.length : Int) + 1 := by omega
    have j1d : decide ((64 : Int) < (r.length : Int) + 1) = false := decide_eq_false j1
    have hb := (laid1 w (.cells #[.string ⟨#[128]⟩] 9))
    have HS := Lib.hid (kecOne_l hr w.heap.size 0 _ (by simp) (by decide) (HKT.out.belowP hb))
    have HB := Lib.hid hb
    clear h64 h1 h2 hf hK hr hb
    go_enter Tryz.func14, Tryz.ntmps14
    go_wp2_with fail
    refine wp_scope_straight ?_
    go_wp2_with fail
    refine HF.out.mono ?_
    rintro e w1 ⟨rfl, rfl⟩
    go_wp2_with fail
    refine HS.out.mono ?_
    rintro e w2 ⟨rfl, hb2⟩
    have HB2 := Lib.hid (HB.out.trans (hb2.mono HB.out.size))
    clear hb2
    go_wp2_with fail
    simp only [Exit.noGoto]
    change bodyPost _ _ _ Exit.ret _ _
    go_ret3
    exact ⟨rfl, HB2.out⟩
end Go.Proofs.YthicdhnjincflaaGreatDoor
/- proof.Check: the walk. -/
namespace Go.Proofs.YthicdhnjincflaaGreatDoor
open Go.RowKit Go.Shelf Go.Lib
attribute [local go_sem] Oper.semAt_some
set_option maxHeartbeats 1600000 in
theorem rlpText_any (s : List UInt8) (w : World) : Calls Tryz.prog 26 #[.string ⟨s.toArray⟩] w fun e w' => e = .returned (.agg #[.bool false, .string ⟨s.toArray⟩, .slice none 0 0]) ∧ Below w.heap.size w w' := by
  go_enter Tryz.func26, Tryz.ntmps26
  go_wp2_with fail
  refine bodyPost_ret (results_cells rfl _ _ w.heap.size [.bool false, .string ⟨s.toArray⟩, .slice none 0 0] _ (by rfl) (HasCells.new w [.bool false, .string ⟨s.toArray⟩, .slice none 0 0] 46).range Tryz.underlying46 rfl infoItemS) rfl ?_
  exact ⟨rfl, laid1 w _⟩
def RoundC (B wb z : Nat) (root : List UInt8) (path : List UInt8) (l : List (List UInt8)) (gg : Nat) (W : World) : Prop :=
  ∃ (f : Nat) (y : Item) (pth : List UInt8) (rest : List (List UInt8)) (xp : Option Addr) (xn xc : Nat) (q : Option Addr) (c : Nat),
    pth.length ≤ gg ∧ pth.length < f ∧ underP keccakL f y pth rest = underP keccakL 129 (txtI root) path l ∧ isPath pth = true ∧ pth.length ≤ 128 ∧
    HasCells W wb [.string ⟨pth.toArray⟩, .slice q rest.length c, .string ⟨#[]⟩] 56 ∧ HasCells W z [.bool y.isList, .string ⟨y.text.toArray⟩, .slice xp xn xc] 46 ∧
    RZ z W (.slice xp xn xc) y.list ∧ (y.isList = true → Small y) ∧ StrsB B W (.slice q rest.length c) (rest.map bt) ∧ (∀ t ∈ rest, t.length ≤ 65536) ∧ rest.length ≤ 140 ∧ (∀ W', Below B W W' → KecT W') ∧ B ≤ wb ∧ wb < z
theorem nodeOf_rest {ref x : Item} {rest rest2 : List (List UInt8)} (h : nodeOf keccakL ref rest = some (x, rest2)) : rest2 = rest ∨ ∃ s, rest = s :: rest2 := by
  have h2 := (node_node keccakL h).2
  unfold openP at h2
  split at h2
  · simp only [Option.some.injEq, Prod.mk.injEq] at h2
    exact .inl h2.2.symm
  · split at h2
    · cases h2
    · rename_i s r
      split at h2
      · simp only [Option.some.injEq, Prod.mk.injEq] at h2
        exact .inr ⟨s, by rw [h2.2]⟩
      · cases h2
theorem RoundC.start {root path s : List UInt8} {l : List (List UInt8)} {n c : Nat} {p : Option Addr} {w1 w2 w3 : World} (hn : l.length = n) (hp : path.length ≤ 128) (hip : isPath path = true)
    (hs : StrsB w1.heap.size w1 (.slice p (n + 1) c) ((s :: l).map bt)) (hb2 : Below w1.heap.size w1 w2)
    (hb3 : Below (w2.alloc (.cells #[.string ⟨path.toArray⟩, .slice p (n + 1) c, .string ⟨#[]⟩] 56)).heap.size (w2.alloc (.cells #[.string ⟨path.toArray⟩, .slice p (n + 1) c, .string ⟨#[]⟩] 56)) w3)
    (h64 : ∀ t ∈ s :: l, t.length ≤ 65536) (h140 : (s :: l).length ≤ 140) (hK : KecT w1) :
    RoundC w1.heap.size w2.heap.size w3.heap.size root path (s :: l) 128 (w3.alloc (.cells #[.bool false, .string ⟨root.toArray⟩, .slice none 0 0] 46)) ∧ Below w1.heap.size w1 (w3.alloc (.cells #[.bool false, .string ⟨root.toArray⟩, .slice none 0 0] 46)) := by
  subst hn
  have hb23 : Below w1.heap.size w1 w3 := hb2.trans (((laid1 w2 _).mono hb2.size).trans (hb3.mono (by have := hb2.size; simp; omega)))
  refine ⟨?_, hb23.alloc hb23.size _⟩
  refine ⟨129, txtI root, path, s :: l, none, 0, 0, p, c, hp, by omega, rfl, hip, hp, ?_, HasCells.new w3 [.bool false, .string ⟨root.toArray⟩, .slice none 0 0] _, ReadsIn.nil _ _, fun h => (by cases h), ?_, h64, h140, fun W' hb => hK.belowP ((hb23.alloc hb23.size _).trans hb), hb2.size, ?_⟩
  · exact ((HasCells.new w2 [.string ⟨path.toArray⟩, .slice p (l.length + 1) c, .string ⟨#[]⟩] _).after hb3).alloc _
  · exact hs.below (hb23.alloc hb23.size _)
  · have := hb3.size
    simp at this
    omega
theorem RoundC.next {B wb z : Nat} {root path pth p2 : List UInt8} {l rest rest2 : List (List UInt8)} {y x y2 : Item} {f1 g' : Nat} {xp3 : Option Addr} {xn3 xc3 : Nat} {q2 : Option Addr} {c2 : Nat} {wr w5 : World} {a b u : Value}
    (hnd : nodeOf keccakL y rest = some (x, rest2)) (hst : stepP x pth = .next y2 p2) (hf : pth.length < f1 + 1) (hg : p2.length ≤ g')
    (hun : underP keccakL (f1 + 1) y pth rest = underP keccakL 129 (txtI root) path l) (hu1 : underP keccakL (f1 + 1) y pth rest = underP keccakL f1 y2 p2 rest2) (hpt : isPath pth = true) (h128 : pth.length ≤ 128)
    (hw6 : HasCells w5 wb [.string ⟨p2.toArray⟩, .slice q2 rest2.length c2, .string ⟨#[]⟩] 56) (hz7 : HasCells (w5.alloc (.cells #[.bool y2.isList, .string ⟨y2.text.toArray⟩, .slice xp3 xn3 xc3] 46)) z [a, b, u] 46) (hrz : RZ z w5 (.slice xp3 xn3 xc3) y2.list) (hsm2 : Small x)
    (hst2 : StrsB B w5 (.slice q2 rest2.length c2) (rest2.map bt)) (h64 : ∀ t ∈ rest, t.length ≤ 65536) (h140 : rest.length ≤ 140) (hkt : ∀ W', Below B wr W' → KecT W') (hB5 : B ≤ w5.heap.size) (hBw : B ≤ wb) (hwz : wb < z) (hb5 : Below B wr w5) :
    RoundC B wb z root path l g' ((((w5.alloc (.cells #[.bool y2.isList, .string ⟨y2.text.toArray⟩, .slice xp3 xn3 xc3] 46)).setCell ⟨z, 0, none⟩ (.bool y2.isList)).setCell ⟨z, 1, none⟩ (.string ⟨y2.text.toArray⟩)).setCell ⟨z, 2, none⟩ (.slice xp3 xn3 xc3)) := by
  have hnx := (node_node keccakL hnd).1
  have hsh := step_short hnx hst
  have hb8 := laid1 w5 (.cells #[.bool y2.isList, .string ⟨y2.text.toArray⟩, .slice xp3 xn3 xc3] 46)
  have hb9 := three_at (hb8.mono hB5) (show B ≤ z by omega) (.bool y2.isList) (.string ⟨y2.text.toArray⟩) (.slice xp3 xn3 xc3)
  have hr := nodeOf_rest hnd
  refine ⟨f1, y2, p2, rest2, xp3, xn3, xc3, q2, c2, hg, by omega, hu1.symm.trans hun, hsh.2 hpt, by omega, (hw6.alloc _).threeOther (by omega) _ _ _, ((hz7.set 0 _).set 1 _).set 2 _, ?_, fun _ => (hsm2.child (step_mem hnx hst hpt).1).1, hst2.below hb9, ?_, ?_, ?_, hBw, hwz⟩
  · exact ReadsIn.kept (hrz.below hb8) (fun g _ o hg hc => three_other hc hg.2 _ _ _) (fun g hg => ⟨by simpa using hg.1, hg.2⟩)
  · rcases hr with rfl | ⟨s, rfl⟩
    · exact h64
    · exact fun t ht => h64 t (List.mem_cons_of_mem _ ht)
  · rcases hr with rfl | ⟨s, rfl⟩
    · exact h140
    · simp at h140; omega
  · exact fun W' hb => hkt W' (hb5.trans (hb9.trans hb))
set_option maxRecDepth 100000 in
set_option maxHeartbeats 6400000 in
theorem check_walk_any (root key : List UInt8) (s : List UInt8) (l : List (List UInt8)) (v : Value) (w : World) (hv : Strs w v ((s :: l).map bt)) (hN : (s :: l).length ≤ 1099511627776) (hK : KecT w) (hg : (sizesP root (s :: l) && keyOk key) = true) :
    Calls Tryz.prog 14 #[.string ⟨root.toArray⟩, .string ⟨key.toArray⟩, v] w fun e w' => e = .returned (checkV (checkP keccakL root key (s :: l))) ∧ Below w.heap.size w w' := by
  have hg0 := hg
  rw [Bool.and_eq_true] at hg
  obtain ⟨h1, h2⟩ := hg
  have hf := fits_any root (s :: l) v w hv hN
  rw [h1] at hf
  obtain ⟨p, c, rfl, _⟩ := id hv
  obtain ⟨n, hn⟩ : ∃ n, l.length = n := ⟨_, rfl⟩
  have hne : ((s :: l).map bt).length = n + 1 := by rw [← hn]; simp
  rw [hne] at hf ⊢
  have HF := Lib.hid hf
  have HKT := Lib.hid hK
  have HV := Lib.hid hv
  obtain ⟨rr, hrr⟩ : ∃ r, checkP keccakL root key (s :: l) = r := ⟨_, rfl⟩
  rw [hrr]
  rw [check_some hg0] at hrr
  have HRR := Lib.hid hrr
  clear hg0
  have HN := Lib.hid hn
  cases key with
  | nil => simp [keyOk] at h2
  | cons a r =>
    have h64 : r.length + 1 ≤ 64 := by
      unfold keyOk at h2
      simp at h2
      omega
    have hks : (⟨(a :: r).toArray⟩ : ByteArray).size = r.length + 1 := rfl
    have j1 : ¬ (64 : Int) < (r.length : Int) + 1 := by omega
    have j1d : decide ((64 : Int) < (r.length : Int) + 1) = false := decide_eq_false j1
    have hof := of_any ⟨(a :: r).toArray⟩ w (by rw [hks]; omega)
    rw [show (⟨(a :: r).toArray⟩ : ByteArray).data.toList = a :: r from rfl] at hof
    obtain ⟨path, hpath⟩ : ∃ q, halves (a :: r) = q := ⟨_, rfl⟩
    rw [hpath] at hof
    have HOF := Lib.hid hof
    have HPA := Lib.hid hpath
    have HH := Lib.hid h1
    have H64K := Lib.hid (show 2 * (r.length + 1) ≤ 128 by omega)
    have z1 : ((n : Int) + 1 == 0) = false := by rw [beq_eq_false_iff_ne]; omega
    clear h64 h1 h2 hf hK hv hrr hof hpath hne hN hn
    go_enter Tryz.func14, Tryz.ntmps14
    go_wp2_with fail
    refine wp_scope_straight ?_
    go_wp2_with fail
    refine HF.out.mono ?_
    rintro e w1 ⟨rfl, rfl⟩
    go_wp2_with fail
    refine HOF.out.mono ?_
    rintro e w2 ⟨rfl, hb2⟩
    go_wp2_with fail
    refine (rlpText_any root _).mono ?_
    rintro e w3 ⟨rfl, hb3⟩
    go_wp2_with fail
    refine wp_label ?_
    go_wp2_with fail
    go_loopg [] 128 (fun gg wr => Aside (RoundC w1.heap.size w2.heap.size w3.heap.size root path (s :: l) gg wr) ∧ Aside (Below w1.heap.size w1 wr))
    case atStart =>
      have hz := HH.out
      unfold sizesP at hz
      simp only [Bool.and_eq_true, List.all_eq_true, decide_eq_true_eq] at hz
      have hpl : path.length ≤ 128 := by rw [← HPA.out, halves_length]; simpa using H64K.out
      exact RoundC.start HN.out hpl (by rw [← HPA.out]; exact isPath_halves _) (by have := HV.out.bound; simpa [HN.out] using this) hb2 hb3 hz.1 hz.2.2 HKT.out
    case round =>
      obtain ⟨⟨f, y, pth, rest, xp, xn, xc, q, c', hgk, hf, hun, hpt, h128, hw, hz, hrz, hsm, hst, h64, h140, hkt, hBw, hwz⟩, HB⟩ := hrel
      have HND : Hid (Calls Tryz.prog 27 #[.pointer (some ⟨w2.heap.size, 0, none⟩), .agg #[.bool y.isList, .string ⟨y.text.toArray⟩, .slice xp xn xc]] wr (NodeRes w1.heap.size w2.heap.size w3.heap.size ⟨pth.toArray⟩ ⟨#[]⟩ (nodeOf keccakL y rest) wr)) := by
        refine Lib.hid ?_
        have hB := HB.out.size
        by_cases hyl : y.isList = true
        · exact walkNode_list w1.heap.size w2.heap.size w3.heap.size y xp xn xc ⟨pth.toArray⟩ ⟨#[]⟩ rest q c' wr hB hw.lt hyl hrz (hsm hyl) hw hst
        · have hyf : y.isList = false := by simpa using hyl
          cases rest with
          | nil => exact walkNode_nil w1.heap.size w2.heap.size w3.heap.size y xp xn xc ⟨pth.toArray⟩ ⟨#[]⟩ q c' wr hB hyf hw
          | cons s2 r2 => exact walkNode_cons w1.heap.size w2.heap.size w3.heap.size y xp xn xc ⟨pth.toArray⟩ ⟨#[]⟩ s2 r2 q c' wr hB hBw hz.lt hyf (by have := h64 s2 (by simp); omega) (by simp at h140; omega) hw (by simpa using hst) hkt
      have z0 := hz.cell (j := 0) rfl
      have z1' := hz.cell (j := 1) rfl
      have z2 := hz.cell (j := 2) rfl
      have HUN := Lib.hid hun
      have HPT := Lib.hid hpt
      have HZ := Lib.hid hz
      have HB2 := Lib.hid HB.out
      have HKT2 := Lib.hid hkt
      have H64 := Lib.hid h64
      clear hw hz hrz hsm hst h64 hun hkt hpt HB
      go_wp2_with fail
      refine HND.out.mono ?_
      rintro e w4 ⟨hup, hres⟩
      obtain ⟨f1, rfl⟩ : ∃ f1, f = f1 + 1 := ⟨f - 1, by omega⟩
      cases hnd : nodeOf keccakL y rest with
      | none =>
        rw [hnd] at hres
        obtain ⟨b3, s3, p3, n3, c3, rfl⟩ := hres
        have hu0 : underP keccakL (f1 + 1) y pth rest = none := by unfold underP; rw [hnd]
        have hrr : rr = ([], 70) := by
          rw [← HRR.out]
          unfold foundP
          rw [HPA.out, ← HUN.out, hu0]
        have HB4 := Lib.hid (HB2.out.trans hup.1)
        subst hrr
        clear HRR hu0 hup z0 z1' z2 hnd
        go_wp2_with fail
        simp only [Exit.noGoto]
        change bodyPost _ _ _ Exit.ret _ _
        go_ret3
        exact ⟨rfl, HB4.out.alloc HB4.out.size _⟩
      | some xr =>
        obtain ⟨x, rest2⟩ := xr
        rw [hnd] at hres
        obtain ⟨xp2, xn2, xc2, q2, c2, rfl, hrz2, hsm2, hw2, hst2⟩ := hres
        have hnx := (node_node keccakL hnd).1
        have hb4 := laid1 w4 (.cells #[.bool x.isList, .string ⟨x.text.toArray⟩, .slice xp2 xn2 xc2] 46)
        have HB4 := Lib.hid (HB2.out.trans hup.1)
        have HST := Lib.hid (walkStep_any w1.heap.size w2.heap.size w3.heap.size x xp2 xn2 xc2 pth q2 rest2.length c2 _ (Nat.le_trans HB4.out.size hb4.size) hBw hnx hsm2 HPT.out (by omega) (hrz2.below hb4) (hw2.after hb4))
        have HW4 := Lib.hid (hw2.after hb4)
        have HS4 := Lib.hid (hst2.below (hb4.mono HB4.out.size))
        have HB5 := Lib.hid (HB4.out.trans (hb4.mono HB4.out.size))
        have HUP := Lib.hid hup
        have HND2 := Lib.hid hnd
        clear z0 z1' z2 hrz2 hw2 hst2 hb4 hup hnd
        go_wp2_with fail
        refine HST.out.mono ?_
        rintro e w5 ⟨hup5, hres5⟩
        have hu1 : underP keccakL (f1 + 1) y pth rest = (match stepP x pth with
          | .stop v => some (v, rest2)
          | .next y2 p2 => underP keccakL f1 y2 p2 rest2) := by
          conv => lhs; unfold underP
          rw [HND2.out]
          rfl
        cases hst : stepP x pth with
        | stop v =>
          rw [hst] at hres5 hu1
          obtain ⟨b6, s6, p6, n6, c6, path6, rfl, hw6⟩ := hres5
          have HW6 := Lib.hid hw6
          have HB6 := Lib.hid (HB5.out.trans hup5.1)
          have HU1 := Lib.hid hu1
          have hw7 := hw6.alloc (.cells #[.bool b6, .string s6, .slice p6 n6 c6] 46)
          have k1 := hw7.cell (j := 1) rfl
          have k2 := hw7.cell (j := 2) rfl
          clear hw6 hup5 hst hu1 hw7
          cases rest2 with
          | nil =>
            have hrr : rr = (v, 0) := by
              rw [← HRR.out]
              unfold foundP
              rw [HPA.out, ← HUN.out, HU1.out]
            clear HRR
            go_wp2_with fail
            refine wp_region_held_drew (S := (fun W => W.cell? ⟨w2.heap.size, 2, none⟩ = some (.string (bt v)))) (by kernel_rfl) (k2) (fun hHeld => ?_)
            refine wpAnyH_take (i := 0) (v := ?_) rfl (by kernel_rfl) (by kernel_rfl) (by kernel_rfl) (fun _ _ _ h => h) (.inl ⟨by rfl, ?_⟩) (by assumption) ?_
            rotate_left 1
            · intro w0 hSw
              go_simp <;> with_reducible rfl
            try simp only [Act.put, zq1, zq2, zq4, zq5, zq6]
            refine wpAnyH_take (i := 1) (v := ?_) rfl (by kernel_rfl) (by kernel_rfl) (by kernel_rfl) (fun _ _ _ h => h) (.inl ⟨by rfl, ?_⟩) (by assumption) ?_
            rotate_left 1
            · intro w0 hSw
              go_simp <;> with_reducible rfl
            try simp only [Act.put, zq1, zq2, zq3, zq4, zq5, zq6]
            refine wpAnyH_take (i := 2) (v := ?_) rfl (by kernel_rfl) (by kernel_rfl) (by kernel_rfl) (fun _ _ _ h => h) (.inl ⟨by rfl, ?_⟩) (by assumption) ?_
            rotate_left 1
            · intro w0 hSw
              go_simp <;> with_reducible rfl
            try simp only [Act.put, zq1, zq2, zq3, zq4, zq5, zq6]
            refine wpAnyH_take (i := 3) (v := ?_) rfl (by kernel_rfl) (by kernel_rfl) (by kernel_rfl) (fun _ _ _ h => h) (.inl ⟨by rfl, ?_⟩) (by assumption) ?_
            rotate_left 1
            · intro w0 hSw
              have z9 := hSw
              go_simp <;> with_reducible rfl
            try simp only [Act.put, zq1, zq2, zq3, zq4, zq5, zq6]
            refine wpAnyH_take (i := 4) (v := ?_) rfl (by kernel_rfl) (by kernel_rfl) (by kernel_rfl) (fun _ _ _ h => h) (.inl ⟨by rfl, ?_⟩) (by assumption) ?_
            rotate_left 1
            · intro w0 hSw
              go_simp <;> with_reducible rfl
            try simp only [Act.put, zq1, zq2, zq3, zq4, zq5, zq6]
            refine wpAnyH_take (i := 5) (v := ?_) rfl (by kernel_rfl) (by kernel_rfl) (by kernel_rfl) (fun _ _ _ h => h) (.inl ⟨by rfl, ?_⟩) (by assumption) ?_
            rotate_left 1
            · intro w0 hSw
              go_simp <;> with_reducible rfl
            try simp only [Act.put, zq1, zq2, zq3, zq4, zq5, zq6]
            refine wpAnyH_take (i := 6) (v := ?_) rfl (by kernel_rfl) (by kernel_rfl) (by kernel_rfl) (fun _ _ _ h => h) (.inl ⟨by rfl, ?_⟩) (by assumption) ?_
            rotate_left 1
            · intro w0 hSw
              go_simp <;> with_reducible rfl
            try simp only [Act.put, zq1, zq2, zq3, zq4, zq5, zq6]
            refine wpAnyH_take (i := 7) (v := ?_) rfl (by kernel_rfl) (by kernel_rfl) (by kernel_rfl) (fun _ _ _ h => h) (.inl ⟨by rfl, ?_⟩) (by assumption) ?_
            rotate_left 1
            · intro w0 hSw
              have z9 := hSw
              go_simp <;> with_reducible rfl
            try simp only [Act.put, zq1, zq2, zq3, zq4, zq5, zq6]
            refine wpAnyH_take (i := 8) (v := ?_) rfl (by kernel_rfl) (by kernel_rfl) (by kernel_rfl) (fun _ _ _ h => h) (.inl ⟨by rfl, ?_⟩) (by assumption) ?_
            rotate_left 1
            · intro w0 hSw
              go_simp <;> with_reducible rfl
            try simp only [Act.put, zq1, zq2, zq3, zq4, zq5, zq6]
            refine wpAnyH_take (i := 9) (v := ?_) rfl (by kernel_rfl) (by kernel_rfl) (by kernel_rfl) (fun _ _ _ h => h) (.inl ⟨by rfl, ?_⟩) (by assumption) ?_
            rotate_left 1
            · intro w0 hSw
              go_simp <;> with_reducible rfl
            try simp only [Act.put, zq1, zq2, zq3, zq4, zq5, zq6]
            refine wpAnyH_take (i := 10) (v := ?_) rfl (by kernel_rfl) (by kernel_rfl) (by kernel_rfl) (fun _ _ _ h => h) (.inl ⟨by rfl, ?_⟩) (by assumption) ?_
            rotate_left 1
            · intro w0 hSw
              go_simp <;> with_reducible rfl
            try simp only [Act.put, zq1, zq2, zq3, zq4, zq5, zq6]
            refine wpAnyH_take (i := 11) (v := ?_) rfl (by kernel_rfl) (by kernel_rfl) (by kernel_rfl) (fun _ _ _ h => h) (.inl ⟨by rfl, ?_⟩) (by assumption) ?_
            rotate_left 1
            · intro w0 hSw
              go_simp <;> with_reducible rfl
            try simp only [Act.put, zq1, zq2, zq3, zq4, zq5, zq6]
            refine wpAnyH_done (by kernel_rfl) ?_ 0
            go_wp2_with fail
            simp only [Exit.noGoto]
            change bodyPost _ _ _ Exit.ret _ _
            go_ret3
            rw [hrr]
            refine ⟨?_, (HB6.out.alloc HB6.out.size _).drew⟩
            show Ending.returned (.tuple #[.string (bt v), .bool (!(bt v).toList.isEmpty), .int .i64 0]) = _
            rw [show (bt v).toList = v from by rw [ByteArray.toList_eq]; rfl]
            rfl
          | cons t3 r3 =>
            have hrr : rr = ([], 70) := by
              rw [← HRR.out]
              unfold foundP
              rw [HPA.out, ← HUN.out, HU1.out]
            have m1 : (0 : Int) < (r3.length : Int) + 1 := by omega
            subst hrr
            clear HRR
            go_wp2_with fail
            simp only [Exit.noGoto]
            change bodyPost _ _ _ Exit.ret _ _
            go_ret3
            exact ⟨rfl, HB6.out.alloc HB6.out.size _⟩
        | next y2 p2 =>
          rw [hst] at hres5 hu1
          obtain ⟨xp3, xn3, xc3, rfl, hrz3, hw6⟩ := hres5
          have hz4 := HZ.out.kept (HUP.out.2.2 _ HZ.out.lt (by omega))
          have hz5 := (hz4.alloc (.cells #[.bool x.isList, .string ⟨x.text.toArray⟩, .slice xp2 xn2 xc2] 46))
          have hz6 := hz5.kept (hup5.2.2 _ hz5.lt (by omega))
          have hz7 := hz6.alloc (.cells #[.bool y2.isList, .string ⟨y2.text.toArray⟩, .slice xp3 xn3 xc3] 46)
          have HZ7 := Lib.hid hz7
          have HW6 := Lib.hid hw6
          have HRZ := Lib.hid hrz3
          have HB6 := Lib.hid (HB5.out.trans hup5.1)
          have HS6 := Lib.hid (HS4.out.below hup5.1)
          have HU1 := Lib.hid hu1
          have HST2 := Lib.hid hst
          have HSH := Lib.hid (step_short hnx hst)
          have e0 := hz7.cell (j := 0) rfl
          have e1 := hz7.cell (j := 1) rfl
          have e2 := hz7.cell (j := 2) rfl
          have f0 := hz7.frozen 0
          have f1' := hz7.frozen 1
          have f2 := hz7.frozen 2
          have nz : ¬ w5.heap.size = w3.heap.size := by have := hz6.lt; omega
          have nz2 : ¬ w3.heap.size = w5.heap.size := by omega
          clear hw6 hup5 hst hu1 hz4 hz5 hz6 hz7 hrz3
          go_wp2_with fail
          go_roundg (pth.length - 1)
          case measure => have := HSH.out.1; omega
          case rel =>
            have hb9 := three_at (HB6.out.alloc HB6.out.size (.cells #[.bool y2.isList, .string ⟨y2.text.toArray⟩, .slice xp3 xn3 xc3] 46)) (show w1.heap.size ≤ w3.heap.size by omega) (.bool y2.isList) (.string ⟨y2.text.toArray⟩) (.slice xp3 xn3 xc3)
            exact ⟨RoundC.next (wr := w1) HND2.out HST2.out (by omega) (by have := HSH.out.1; omega) HUN.out HU1.out HPT.out h128 HW6.out HZ7.out HRZ.out hsm2 HS6.out H64.out h140 (fun W' hb => HKT.out.belowP hb) HB6.out.size hBw hwz HB6.out, hb9⟩
end Go.Proofs.YthicdhnjincflaaGreatDoor
/- Contract of pharosref03.Clash. -/
namespace Go.Proofs.YthicdhnjincflaaGreatDoor
open Go.RowKit Go.Shelf Go.Lib
attribute [local go_sem] Oper.semAt_some
def kecB (x : ByteArray) : ByteArray := ⟨(keccakL x.data.toList).toArray⟩
def HasClashK (xs : List ByteArray) : Prop := ∃ s t, s ∈ xs ∧ t ∈ xs ∧ s ≠ t ∧ kecB s = kecB t
theorem HasClashK.places {xs : List ByteArray} (h : HasClashK xs) : ∃ (i k : Nat) (s t : ByteArray), k < i ∧ xs[i]? = some s ∧ xs[k]? = some t ∧ s ≠ t ∧ kecB s = kecB t := by
  obtain ⟨s, t, hs, ht, hn, he⟩ := h
  obtain ⟨i, hi⟩ := List.mem_iff_getElem?.1 hs
  obtain ⟨k, hk⟩ := List.mem_iff_getElem?.1 ht
  rcases Nat.lt_trichotomy i k with h | h | h
  · exact ⟨k, i, t, s, h, hk, hi, fun e => hn e.symm, he.symm⟩
  · subst h
    rw [hi] at hk
    exact absurd (Option.some.inj hk) hn
  · exact ⟨i, k, s, t, h, hi, hk, hn, he⟩
end Go.Proofs.YthicdhnjincflaaGreatDoor
/- proof.Check gives what checkP says, of any root, key and texts. -/
namespace Go.Proofs.YthicdhnjincflaaGreatDoor
open Go.RowKit Go.Shelf Go.Lib
attribute [local go_sem] Oper.semAt_some
set_option maxRecDepth 100000 in
set_option maxHeartbeats 6400000 in
theorem check_lone_any (root key : List UInt8) (p : Option Addr) (c : Nat) (w : World) (hK : KecT w) (hg : (sizesP root [] && keyOk key) = true) (hr : keccakL [128] ≠ root) :
    Calls Tryz.prog 14 #[.string ⟨root.toArray⟩, .string ⟨key.toArray⟩, .slice p 0 c] w fun e w' => e = .returned (checkV ([], 70)) ∧ Below w.heap.size w w' := by
  rw [Bool.and_eq_true] at hg
  obtain ⟨h1, h2⟩ := hg
  have hf := fits_any root [] (.slice p 0 c) w ⟨p, c, rfl, Nat.zero_le _, .inl rfl⟩ (by decide)
  rw [h1] at hf
  have HF := Lib.hid hf
  have HKT := Lib.hid hK
  obtain ⟨kk, hkk⟩ : ∃ k, keccakL [128] = k := ⟨_, rfl⟩
  rw [hkk] at hr
  have q1 : (root == kk) = false := by rw [beq_eq_false_iff_ne]; exact fun e => hr e.symm
  cases key with
  | nil => simp [keyOk] at h2
  | cons a r =>
    have h64 : r.length + 1 ≤ 64 := by
      unfold keyOk at h2
      simp at h2
      omega
    have hks : (⟨(a :: r).toArray⟩ : ByteArray).size = r.length + 1 := rfl
    have j1 : ¬ (64 : Int) < (r.length : Int) + 1 := by omega
    have j1d : decide ((64 : Int) < (r.length : Int) + 1) = false := decide_eq_false j1
    have hb := (laid1 w (.cells #[.string ⟨#[128]⟩] 9))
    have HS := Lib.hid (kecOne_l hkk w.heap.size 0 _ (by simp) (by decide) (HKT.out.belowP hb))
    have HB := Lib.hid hb
    have HOF : Hid (∀ W, Calls Tryz.prog 23 #[.string ⟨(a :: r).toArray⟩] W fun e w' => e = .returned (.string ⟨(halves (a :: r)).toArray⟩) ∧ Below W.heap.size W w') := Lib.hid fun W => by
      have hof := of_any ⟨(a :: r).toArray⟩ W (by rw [hks]; omega)
      rwa [show (⟨(a :: r).toArray⟩ : ByteArray).data.toList = a :: r from rfl] at hof
    obtain ⟨path, hpath⟩ : ∃ q, halves (a :: r) = q := ⟨_, rfl⟩
    rw [hpath] at HOF
    clear h64 h1 h2 hf hK hr hb hpath hkk
    go_enter Tryz.func14, Tryz.ntmps14
    go_wp2_with fail
    refine wp_scope_straight ?_
    go_wp2_with fail
    refine HF.out.mono ?_
    rintro e w1 ⟨rfl, rfl⟩
    go_wp2_with fail
    refine HS.out.mono ?_
    rintro e w2 ⟨rfl, hb2⟩
    have HB2 := Lib.hid (HB.out.trans (hb2.mono HB.out.size))
    clear hb2
    go_wp2_with fail
    refine (HOF.out _).mono ?_
    rintro e w3 ⟨rfl, hb3⟩
    have HB3 := Lib.hid (HB2.out.trans (hb3.mono HB2.out.size))
    clear hb3
    go_wp2_with fail
    refine (rlpText_any root _).mono ?_
    rintro e w4 ⟨rfl, hb4⟩
    have HN4 := Lib.hid (((HasCells.new w3 [.string ⟨path.toArray⟩, .slice p 0 c, .string ⟨#[]⟩] 56).after hb4).alloc (.cells #[.bool false, .string ⟨root.toArray⟩, .slice none 0 0] 46))
    have HZ4 := Lib.hid (HasCells.new w4 [.bool false, .string ⟨root.toArray⟩, .slice none 0 0] 46)
    have hb5 := (HB3.out.alloc HB3.out.size (.cells #[.string ⟨path.toArray⟩, .slice p 0 c, .string ⟨#[]⟩] 56))
    have hb6 := hb5.trans (hb4.mono hb5.size)
    have HB4 := Lib.hid (hb6.alloc hb6.size (.cells #[.bool false, .string ⟨root.toArray⟩, .slice none 0 0] 46))
    clear hb4 hb5 hb6
    go_wp2_with fail
    refine wp_label ?_
    go_wp2_with fail
    go_loopg [] 0 (fun gg wr => gg = 0 ∧ Aside (HasCells wr w3.heap.size [.string ⟨path.toArray⟩, .slice p 0 c, .string ⟨#[]⟩] 56) ∧ Aside (HasCells wr w4.heap.size [.bool false, .string ⟨root.toArray⟩, .slice none 0 0] 46) ∧ Aside (Below w1.heap.size w1 wr))
    case atStart => exact ⟨rfl, HN4.out, HZ4.out, HB4.out⟩
    case round =>
      obtain ⟨hgg, hw, hz, HB5⟩ := hrel
      have z0 := hz.out.cell (j := 0) rfl
      have z1' := hz.out.cell (j := 1) rfl
      have z2 := hz.out.cell (j := 2) rfl
      have HND := Lib.hid (walkNode_nil w1.heap.size w3.heap.size w4.heap.size (txtI root) none 0 0 ⟨path.toArray⟩ ⟨#[]⟩ p c wr HB5.out.size rfl hw.out)
      rw [nodeOf_nil rfl] at HND
      clear hw hz HN4 HZ4 HB4
      go_wp2_with fail
      refine HND.out.mono ?_
      rintro e w5 ⟨hup, b3, s3, p3, n3, c3, rfl⟩
      have HB6 := Lib.hid (HB5.out.trans hup.1)
      clear hup z0 z1' z2
      go_wp2_with fail
      simp only [Exit.noGoto]
      change bodyPost _ _ _ Exit.ret _ _
      go_ret3
      exact ⟨rfl, HB6.out.alloc HB6.out.size _⟩
theorem check_any (root key : List UInt8) (xs : List (List UInt8)) (v : Value) (w : World) (hv : Strs w v (xs.map bt)) (hN : xs.length ≤ 1099511627776) (hK : KecT w) :
    Calls Tryz.prog 14 #[.string ⟨root.toArray⟩, .string ⟨key.toArray⟩, v] w fun e w' => e = .returned (checkV (checkP keccakL root key xs)) ∧ Below w.heap.size w w' := by
  cases hb : (sizesP root xs && keyOk key) with
  | false =>
    rw [check_bad hb]
    exact check_bad_any root key xs v w hv hN hb
  | true =>
    cases xs with
    | nil =>
      obtain ⟨p, c, rfl, _⟩ := hv
      rw [check_none hb]
      by_cases hr : root = keccakL [128]
      · rw [if_pos hr]
        exact check_nought_any root key p c w hK hb hr.symm
      · rw [if_neg hr]
        exact check_lone_any root key p c w hK hb (fun e => hr e.symm)
    | cons s l => exact check_walk_any root key s l v w hv hN hK hb
end Go.Proofs.YthicdhnjincflaaGreatDoor
