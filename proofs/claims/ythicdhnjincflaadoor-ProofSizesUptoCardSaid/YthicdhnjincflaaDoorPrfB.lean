/- Contract of proof.refs and of its iterator: the references that a node of 17 items has. -/
import Derived.Test.YthicdhnjincflaaDoorTriS
import Derived.Test.YthicdhnjincflaaDoorItG
import Derived.Test.YthicdhnjincflaaDoorRange
import Derived.OrdersIn
import Derived.OwnWalkIn
import Derived.TacticsInMore
import Derived.LoopNIn
import Derived.LoopIn
import Derived.Test.YthicdhnjincflaaDoorTrfF
import Derived.Test.YthicdhnjincflaaDoorNibsE
import Derived.Test.YthicdhnjincflaaDoorRound
namespace Go.Proofs.YthicdhnjincflaaDoor
open Go.RowKit Go.Shelf Go.Lib
attribute [local go_sem] Oper.semAt_some

/-- what the iterator tells: an item, the value of its list -/
abbrev ElR := Item × Value
def encR (x : ElR) : Array Value := #[.agg #[.bool x.1.isList, .string ⟨x.1.text.toArray⟩, x.2]]
def StepP (A B : World) : Prop := Below A.heap.size A B
/-- blocks below a bound read as before -/
def KeepB (B1 : Nat) (W W' : World) : Prop := W.heap.size ≤ W'.heap.size ∧ ∀ g, g < B1 → W'.heap[g]? = W.heap[g]?
theorem KeepB.trans {B1 : Nat} {A B C : World} (h : KeepB B1 A B) (k : KeepB B1 B C) : KeepB B1 A C := ⟨Nat.le_trans h.1 k.1, fun g hg => (k.2 g hg).trans (h.2 g hg)⟩
theorem KeepB.below {B1 : Nat} {A B : World} (h : Below A.heap.size A B) (h1 : B1 ≤ A.heap.size) : KeepB B1 A B := ⟨h.size, fun g hg => h.block g (by omega)⟩
theorem KeepB.refl (B1 : Nat) (W : World) : KeepB B1 W W := ⟨Nat.le_refl _, fun _ _ => rfl⟩
/-- the items that must be references -/
def refsOf (l : List Item) : List Item := l.filter fun y => !emptyI y
def GoodR (l : List Item) (B1 : Nat) (_ : List ElR) (x : ElR) (_ W1 : World) : Prop :=
  x.1 ∈ l ∧ emptyI x.1 = false ∧ (∃ p n c, x.2 = .slice p n c) ∧ Reads W1 B1 x.2 x.1.list
def RelR (l : List Item) (pre : List ElR) : Prop := ∀ q ∈ pre, q.1 ∈ l ∧ emptyI q.1 = false
theorem RelR.snoc {l : List Item} {pre : List ElR} {x : ElR} (h : RelR l pre) (h1 : x.1 ∈ l) (h2 : emptyI x.1 = false) : RelR l (pre ++ [x]) := fun q hq => by
  rcases List.mem_append.1 hq with hq | hq
  · exact h q hq
  · rw [List.mem_singleton] at hq
    rw [hq]
    exact ⟨h1, h2⟩
theorem refs_any (F : Fence) (n : Nat) (hf : F.fn 89) (hro : F.round = none) (b : Bool) (t : ByteArray) (p : Option Addr) (m c : Nat) (w : World) :
    CallsIn F n Tryd.prog 89 #[.agg #[.bool b, .string t, .slice p m c]] w fun e w' => e = .returned (.func (.func 119) #[] #[.pointer (some ⟨w.heap.size, 0, none⟩)]) ∧ w' = w.alloc (.cells #[.bool b, .string t, .slice p m c] 58) := by
  refine callsIn_of_wp Tryd.func89 rfl hf ?_ hro
  simp only [Tryd.ntmps89, List.size_toArray, List.length_cons, List.length_nil, Nat.reduceAdd, Nat.reduceSub, Array.replicate_succ, Array.replicate_zero, List.push_toArray, List.append_toArray, List.nil_append, List.cons_append]
  gi_wp2
  go_ret
  exact ⟨rfl, rfl⟩
set_option maxRecDepth 100000 in
set_option maxHeartbeats 6400000 in
theorem refs_body (n : Nat) (hn : 1 ≤ n) (l Bn : Nat) (b : Bool) (t : ByteArray) (ys : List Item) (p : Option Addr) (c : Nat) (hlen : ys.length = 17) (J Jx : List ElR → World → Prop)
    (hJs : ∀ s A B, J s A → StepP A B → J s B)
    (hY : ∀ pre x W0 W1, J pre W0 → StepP W0 W1 → GoodR (ys.take 16) Bn pre x W0 W1 → YieldAt Fence.wide (n - 1) Tryd.prog l (encR x) W1 fun e W' =>
      (e = .returned (.bool true) ∧ J (pre ++ [x]) W' ∧ KeepB (Bn + 1) W1 W') ∨ (e = .returned (.bool false) ∧ Jx (pre ++ [x]) W'))
    (W : World) (hbox : HasCells W Bn [.bool b, .string t, .slice p 17 c] 58) (hr : Reads W Bn (.slice p 17 c) ys) (h0 : J [] W) :
    CallsIn Fence.wide n Tryd.prog 119 #[.func (.yield l) #[] #[], .pointer (some ⟨Bn, 0, none⟩)] W fun e W' => (∃ v, e = .returned v) ∧
      ((∃ xs, (RelR (ys.take 16) xs ∧ xs.map Prod.fst = refsOf (ys.take 16)) ∧ J xs W') ∨ (∃ pre, RelR (ys.take 16) pre ∧ Jx pre W')) := by
  have HN := Lib.hid hlen
  have HR := Lib.hid hr
  have HBX := Lib.hid hbox
  have HJS := Lib.hid hJs
  have c2 := hbox.cell (j := 2) rfl
  obtain ⟨-, g, o, rfl, hg, hat⟩ := Reads.at hr (by omega)
  have HAT := Lib.hid hat
  have hcap := ReadsIn.cap hr
  rw [hlen] at hcap
  have q0 : (16 : Int) ≤ c := by omega
  clear hlen hr hbox hat hJs hcap
  refine callsIn_of_wp Tryd.func119 rfl trivial ?_ rfl
  simp only [Tryd.ntmps119, List.size_toArray, List.length_cons, List.length_nil, Nat.reduceAdd, Nat.reduceSub, Array.replicate_succ, Array.replicate_zero, List.push_toArray, List.append_toArray, List.nil_append, List.cons_append]
  gi_wp2
  clear c2
  gi_loopw [9] (fun i wr => ∃ (k : Nat) (pre : List ElR), k ≤ 16 ∧ i = .int .i64 k ∧ J pre wr ∧ Hid (RelR (ys.take 16) pre) ∧ Hid (pre.map Prod.fst = refsOf (ys.take k)) ∧ Hid (KeepB (Bn + 1) W wr)) (fun i wr => 16 - (RowKit.intOf i).toNat)
  case atStart => exact ⟨0, [], Nat.zero_le _, rfl, h0, Lib.hid (fun q h => by cases h), Lib.hid rfl, Lib.hid (KeepB.refl _ _)⟩
  case round =>
    obtain ⟨k, pre, hk, rfl, hJ0, HREL, HMP, HK⟩ := hrel
    have g1 : (0 : Int) ≤ k := by omega
    by_cases hlt : k < 16
    · have g2 : (k : Int) < 16 := by omega
      obtain ⟨y, hy⟩ : ∃ y, ys[k]? = some y := ⟨_, List.getElem?_eq_getElem (by rw [HN.out]; omega)⟩
      obtain ⟨a0, a1, v', a2, hv'⟩ := HAT.out k y hy
      have hkb : ∀ q j u, q < Bn → W.cell? ⟨q, j, none⟩ = some u → wr.cell? ⟨q, j, none⟩ = some u := fun q j u hq hc => (World.cell?_of_block (a := ⟨q, j, none⟩) (HK.out.2 q (by omega))).trans hc
      have c0 := hkb _ _ _ hg a0
      have c1 := hkb _ _ _ hg a1
      have c2 := hkb _ _ _ hg a2
      have hv2 : Reads wr Bn v' y.list := ReadsIn.kept hv' (fun q u j hq hc => hkb q j u hq hc) (fun _ h => h)
      obtain ⟨q1, n1, rfl⟩ := hv2.form
      have hym : y ∈ ys.take 16 := List.mem_of_getElem? (i := k) (by rw [List.getElem?_take, if_pos hlt]; exact hy)
      have htk : refsOf (ys.take (k + 1)) = refsOf (ys.take k) ++ refsOf [y] := by
        unfold refsOf
        rw [List.take_add_one, hy, List.filter_append]
        rfl
      have hbn : Bn + 1 ≤ wr.heap.size := by have := HK.out.1; have := HBX.out.lt; omega
      have HV := Lib.hid hv2
      have HTK := Lib.hid htk
      have HBN := Lib.hid hbn
      have HYM := Lib.hid hym
      obtain ⟨ln, hln⟩ : ∃ n, y.list.length = n := ⟨_, rfl⟩
      rw [hln] at c2 HV
      obtain ⟨yt, hyt⟩ : ∃ t, y.text = t := ⟨_, rfl⟩
      have HYT := Lib.hid hyt
      rw [hyt] at c1
      have hj := hJ0
      have hlo := laid1 wr (.cells #[.bool y.isList, .string ⟨yt.toArray⟩, .slice q1 ln n1] 58)
      have HLO := Lib.hid hlo
      have HQY := Lib.hid (HasCells.new wr [.bool y.isList, .string ⟨yt.toArray⟩, .slice q1 ln n1] 58)
      have h1 := HJS.out _ _ _ hJ0 hlo
      have HGD := Lib.hid (fun (he : emptyI y = false) => (show GoodR (ys.take 16) Bn pre (y, Value.slice q1 ln n1) wr (wr.alloc (.cells #[.bool y.isList, .string ⟨yt.toArray⟩, .slice q1 ln n1] 58)) from
        ⟨HYM.out, he, ⟨_, _, _, rfl⟩, HV.out.below (hlo.mono (by omega)) (Nat.le_refl _)⟩))
      clear a0 a1 a2 hv' hkb hv2 hy hym htk hbn hln hyt hj hlo h1
      cases hil : y.isList with
      | true =>
        have he : emptyI y = false := by unfold emptyI; rw [hil]; rfl
        have HE := Lib.hid he
        have HONE := Lib.hid (show refsOf [y] = [y] from by unfold refsOf; rw [List.filter_cons, he]; rfl)
        rw [hil] at c0 HGD HLO HQY
        obtain ⟨f1, t1, a1, b1, hy1, hR1⟩ := hY pre (y, Value.slice q1 ln n1) wr (wr.alloc (.cells #[.bool true, .string ⟨yt.toArray⟩, .slice q1 ln n1] 58)) hJ0 HLO.out (HGD.out HE.out)
        simp only [encR] at hy1
        rw [hil, HYT.out] at hy1
        have HR1 := Lib.hid hR1
        clear hR1 he hil
        gi_wp2_with fail
        refine HR1.out.mono ?_
        rintro e W1 (⟨rfl, hJ1, hk1⟩ | ⟨rfl, hx1⟩)
        · gi_wp2
          go_roundw
          case rel => exact ⟨k + 1, pre ++ [(y, Value.slice q1 ln n1)], by omega, by go_num, hJ1, Lib.hid (HREL.out.snoc HYM.out HE.out), Lib.hid (by rw [List.map_append, HMP.out, HTK.out, HONE.out]; rfl), Lib.hid (HK.out.trans ((KeepB.below HLO.out HBN.out).trans hk1))⟩
          case measure => simp [RowKit.intOf]; omega
        · gi_wp2
          refine bodyPost_ret (results_none rfl _ _ _) rfl ?_
          exact ⟨⟨_, rfl⟩, .inr ⟨_, HREL.out.snoc HYM.out HE.out, hx1⟩⟩
      | false =>
        by_cases hte : yt = []
        · subst hte
          have he : emptyI y = true := by unfold emptyI; rw [hil, HYT.out]; rfl
          have HONE := Lib.hid (show refsOf [y] = [] from by unfold refsOf; rw [List.filter_cons, he]; rfl)
          rw [hil] at c0 HLO
          clear he
          gi_wp2
          refine ⟨(fun f hf => by cases hf), ?_⟩
          gi_wp2
          go_roundw
          case rel => exact ⟨k + 1, pre, by omega, by go_num, HJS.out _ _ _ hJ0 HLO.out, HREL, Lib.hid (by rw [HTK.out, HONE.out, List.append_nil]; exact HMP.out), Lib.hid (HK.out.trans (KeepB.below HLO.out HBN.out))⟩
          case measure => simp [RowKit.intOf]; omega
        · have he : emptyI y = false := by
            unfold emptyI
            rw [hil, HYT.out]
            cases yt with
            | nil => exact absurd rfl hte
            | cons a r => rfl
          have q2 : (yt == []) = false := beq_eq_false_iff_ne.2 hte
          have HE := Lib.hid he
          have HONE := Lib.hid (show refsOf [y] = [y] from by unfold refsOf; rw [List.filter_cons, he]; rfl)
          rw [hil] at c0 HGD HLO HQY
          obtain ⟨f1, t1, a1, b1, hy1, hR1⟩ := hY pre (y, Value.slice q1 ln n1) wr (wr.alloc (.cells #[.bool false, .string ⟨yt.toArray⟩, .slice q1 ln n1] 58)) hJ0 HLO.out (HGD.out HE.out)
          simp only [encR] at hy1
          rw [hil, HYT.out] at hy1
          have HR1 := Lib.hid hR1
          clear hR1 he hil hte
          gi_wp2_with fail
          refine HR1.out.mono ?_
          rintro e W1 (⟨rfl, hJ1, hk1⟩ | ⟨rfl, hx1⟩)
          · gi_wp2
            go_roundw
            case rel => exact ⟨k + 1, pre ++ [(y, Value.slice q1 ln n1)], by omega, by go_num, hJ1, Lib.hid (HREL.out.snoc HYM.out HE.out), Lib.hid (by rw [List.map_append, HMP.out, HTK.out, HONE.out]; rfl), Lib.hid (HK.out.trans ((KeepB.below HLO.out HBN.out).trans hk1))⟩
            case measure => simp [RowKit.intOf]; omega
          · gi_wp2
            refine bodyPost_ret (results_none rfl _ _ _) rfl ?_
            exact ⟨⟨_, rfl⟩, .inr ⟨_, HREL.out.snoc HYM.out HE.out, hx1⟩⟩
    · have g2 : ¬ ((k : Int) < 16) := by omega
      have hk16 : k = 16 := by omega
      gi_wp2
      go_end0
      exact ⟨⟨_, rfl⟩, .inl ⟨pre, ⟨HREL.out, by rw [HMP.out, hk16]⟩, hJ0⟩⟩
end Go.Proofs.YthicdhnjincflaaDoor
/- Contracts of proof.isRef and proof.isNode. -/
namespace Go.Proofs.YthicdhnjincflaaDoor
open Go.RowKit Go.Shelf Go.Lib
attribute [local go_sem] Oper.semAt_some

/-- an item that can be written as bytes -/
def Small (x : Item) : Prop := wrong x = false ∧ (put x).length ≤ 65536
theorem Small.size {x : Item} (h : Small x) : x.size ≤ 65536 := Nat.le_trans ((size_put x.size).1 x (Nat.le_refl _) h.1) h.2
theorem Small.child {x y : Item} (h : Small x) (hy : y ∈ x.list) : Small y ∧ y.size < x.size := by
  have hsz : y.size < x.size := by
    obtain ⟨i, hi⟩ := List.getElem?_of_mem hy
    exact size_child hi
  refine ⟨?_, hsz⟩
  cases x with
  | mk b t l =>
    cases b with
    | false =>
      have h1 : wrong (.mk false t l) = false := h.1
      rw [wrong_eq] at h1
      have h2 : (!l.isEmpty) = false := h1
      have : l = [] := by simpa using h2
      subst this
      cases hy
    | true =>
      have h1 : wrong (.mk true t l) = false := h.1
      rw [wrong_eq] at h1
      have h2 : (!t.isEmpty || l.any wrong) = false := h1
      have h3 := List.any_eq_false.1 (Bool.or_eq_false_iff.1 h2).2 y hy
      have h4 := tp_mem (show y ∈ l from hy)
      have h5 : (putAll l).length + 1 ≤ (put (.mk true t l)).length := (tp_framed (putAll l) 192).1
      have h6 := h.2
      have h7 : l.length ≠ 0 := fun e => by rw [List.length_eq_zero_iff.1 e] at hy; cases hy
      exact ⟨by simpa using h3, by omega⟩
theorem Small.text {x : Item} (h : Small x) : x.text.length ≤ 65536 := by
  cases x with
  | mk b t l =>
    cases b with
    | false => exact Nat.le_trans (putText_ge t) h.2
    | true =>
      have h1 : wrong (.mk true t l) = false := h.1
      rw [wrong_eq] at h1
      have h2 : (!t.isEmpty || l.any wrong) = false := h1
      have h3 := (Bool.or_eq_false_iff.1 h2).1
      have : t = [] := by simpa using h3
      subst this
      simp [Item.text]
theorem decode_ok {s : List UInt8} {x : Item} (h : decode s = (x, 0)) : Small x := by
  have he := encode_ok (encode_decode h)
  exact ⟨he.2.1, by rw [← he.1]; exact he.2.2.2⟩
def NodeIs (N : Nat) : Prop := ∀ (x : Item) (v : Value) (w : World), x.size ≤ N → Small x → Reads w w.heap.size v x.list →
  Calls Tryd.prog 62 #[.agg #[.bool x.isList, .string ⟨x.text.toArray⟩, v]] w fun e w' => e = .returned (.bool (isNodeP x)) ∧ Below w.heap.size w w'
def RefIs (N : Nat) : Prop := ∀ (x : Item) (v : Value) (w : World), x.size ≤ N → Small x → Reads w w.heap.size v x.list →
  Calls Tryd.prog 90 #[.agg #[.bool x.isList, .string ⟨x.text.toArray⟩, v]] w fun e w' => e = .returned (.bool (isRefP x)) ∧ Below w.heap.size w w'
set_option maxRecDepth 100000 in
set_option maxHeartbeats 1600000 in
theorem isRef_of (N : Nat) (hN : NodeIs N) : RefIs N := by
  intro x v w hsz hsm hr
  obtain ⟨p, c, rfl⟩ := hr.form
  have htl := hsm.text
  have hlo := laid1 w (.cells #[.bool x.isList, .string ⟨x.text.toArray⟩, .slice p x.list.length c] 58)
  have H1 := Lib.hid (fun W (hb : Below w.heap.size w W) => hN x _ W hsz hsm (hr.below hb hb.size))
  have HLO := Lib.hid hlo
  have HRP := Lib.hid (isRefP_iff x)
  obtain ⟨rp, hrp⟩ : ∃ b, isRefP x = b := ⟨_, rfl⟩
  obtain ⟨np, hnp⟩ : ∃ b, isNodeP x = b := ⟨_, rfl⟩
  rw [hrp, hnp] at HRP
  rw [hnp] at H1
  rw [hrp]
  obtain ⟨isl, hisl⟩ : ∃ b, x.isList = b := ⟨_, rfl⟩
  obtain ⟨t, htt⟩ : ∃ t, x.text = t := ⟨_, rfl⟩
  rw [hisl, htt] at H1 HLO HRP
  rw [htt] at htl
  rw [hisl, htt]
  have hs : (⟨t.toArray⟩ : ByteArray).size = t.length := rfl
  obtain ⟨tl, htll⟩ : ∃ n, t.length = n := ⟨_, rfl⟩
  rw [htll] at hs htl HRP
  obtain ⟨m, hm⟩ : ∃ m, x.list.length = m := ⟨_, rfl⟩
  rw [hm] at H1 HLO ⊢
  clear hN hsz hsm hr hlo hrp hnp hisl htt htll hm
  cases isl with
  | true =>
    have hf : rp = np := by have h := HRP.out; simpa using h
    clear HRP
    subst hf
    go_enter Tryd.func90, Tryd.ntmps90
    go_wp2_with fail
    refine (H1.out _ HLO.out).mono ?_
    rintro e w1 ⟨rfl, hb1⟩
    have HB1 := Lib.hid (HLO.out.trans (hb1.mono HLO.out.size))
    clear hb1
    go_wp2
    go_ret
    exact ⟨rfl, HB1.out⟩
  | false =>
    by_cases h32 : tl = 32
    · have hf : rp = true := by have h := HRP.out; rw [decide_eq_true h32] at h; simpa using h
      clear HRP
      subst hf
      subst h32
      go_enter Tryd.func90, Tryd.ntmps90
      go_wp2_with fail
      go_ret
      exact ⟨rfl, HLO.out⟩
    · have hf : rp = np := by have h := HRP.out; rw [decide_eq_false h32] at h; simpa using h
      clear HRP
      subst hf
      have g1 : ((tl : Int) == 32) = false := by simp; omega
      have g2 : ¬ ((tl : Int) = 32) := by omega
      clear h32
      go_enter Tryd.func90, Tryd.ntmps90
      go_wp2_with fail
      refine (H1.out _ HLO.out).mono ?_
      rintro e w1 ⟨rfl, hb1⟩
      have HB1 := Lib.hid (HLO.out.trans (hb1.mono HLO.out.size))
      clear hb1
      go_wp2
      go_ret
      exact ⟨rfl, HB1.out⟩
theorem infoBoolS : (Tryd.prog.info? 4).map (·.size) = some 1 := by kernel_rfl
theorem all_take {l : List Item} (h : l.length = 17) (g : Item → Bool) : ((List.range 16).all fun i => g (l.getD i .none)) = (l.take 16).all g := by
  rw [Bool.eq_iff_iff, List.all_eq_true, List.all_eq_true]
  constructor
  · intro h1 y hy
    obtain ⟨i, hi, rfl⟩ := List.mem_iff_getElem.1 hy
    have hi16 : i < 16 := by rw [List.length_take] at hi; omega
    have h2 := h1 i (List.mem_range.2 hi16)
    rw [List.getD_eq_getElem?_getD, List.getElem?_eq_getElem (by omega)] at h2
    rw [List.getElem_take]
    exact h2
  · intro h1 i hi
    have hi16 := List.mem_range.1 hi
    rw [List.getD_eq_getElem?_getD, List.getElem?_eq_getElem (by omega)]
    exact h1 _ (List.mem_of_getElem? (i := i) (by rw [List.getElem?_take, if_pos hi16, List.getElem?_eq_getElem (by omega)]; rfl))
theorem read_err (s : List UInt8) : (read s).2.2 = 0 ∨ ((read s).2.2 = 50 ∧ (read s).2.1 = false) := by
  unfold read
  split
  · split
    · exact .inr ⟨rfl, rfl⟩
    · split
      · exact .inl rfl
      · exact .inl rfl
  · exact .inr ⟨rfl, rfl⟩
theorem HasCells.grownI {W W' : World} {q : Nat} {cs : List Value} {t : TypeId} {row : Option Nat} (h : HasCells W q cs t) (hg : W.grownBy W' row) (hr : ∀ r, row = some r → ∃ o : Obj, W.heap[r]? = some o ∧ o.isCells = false) : HasCells W' q cs t :=
  h.kept (hg.block q h.lt (fun e => by
    obtain ⟨o, ho, hc⟩ := hr q e.symm
    rw [show W.heap[q]? = _ from h] at ho
    cases ho; cases hc))
theorem keepsFrom_below {B : Nat} {W W' : World} (h : Below W.heap.size W W') : KeepsFrom B W W' := ⟨h.size, fun k _ _ hk _ => (h.block k (Array.getElem?_eq_some_iff.1 hk).1).trans hk⟩
theorem grownBy_putObjP (W : World) (l : Nat) (o : Obj) : W.grownBy (W.putObj l o) (some l) := grownBy_putObj' W l o
theorem brOk_refs {l : List Item} (h : l.length = 17) : brOk l = ((refsOf (l.take 16)).all isRefP && !(l.getD 16 .none).isList) := by
  unfold brOk
  rw [all_take h (fun y => emptyI y || isRefP y)]
  congr 1
  unfold refsOf
  rw [Bool.eq_iff_iff, List.all_eq_true, List.all_eq_true]
  constructor
  · intro h1 y hy
    obtain ⟨h2, h3⟩ := List.mem_filter.1 hy
    have h4 := h1 y h2
    have h5 : emptyI y = false := by simpa using h3
    rw [h5] at h4
    simpa using h4
  · intro h1 y hy
    cases he : emptyI y with
    | true => rfl
    | false => exact h1 y (List.mem_filter.2 ⟨hy, by rw [he]; rfl⟩)
theorem results_bool {fn : Func} {p : Tmp} (h : fn.results = #[.cell p 4]) (tmps : Array Value) (w : World) (g : Nat) (b : Bool) (hp : tmps.getD p undef = .pointer (some ⟨g, 0, none⟩)) (h0 : w.cell? ⟨g, 0, none⟩ = some (.bool b)) :
    (results fn tmps).run Tryd.prog w = .ok (.bool b) w := by
  have hp' : tmps[p]?.getD undef = .pointer (some ⟨g, 0, none⟩) := by simpa using hp
  simp [results, go_sem, h, hp', h0]
set_option maxRecDepth 100000 in
set_option maxHeartbeats 6400000 in
theorem isNode_of (N : Nat) (hN : RefIs N) : NodeIs (N + 1) := by
  intro x v w hsz hsm hr
  obtain ⟨p, c, rfl⟩ := hr.form
  have hlo := laid2 w (.cells #[.bool x.isList, .string ⟨x.text.toArray⟩, .slice p x.list.length c] 58) (.cells #[.bool false] 4)
  have HC := Lib.hid (fun y (hy : y ∈ x.list) V W (hr : Reads W W.heap.size V y.list) => hN y V W (by have := (hsm.child hy).2; omega) (hsm.child hy).1 hr)
  have HSM := Lib.hid (fun y (hy : y ∈ x.list) => (hsm.child hy).1.text)
  have HLO := Lib.hid hlo
  have HNE := Lib.hid (isNodeP_eq x)
  have HRR := Lib.hid hr
  obtain ⟨np, hnp⟩ : ∃ b, isNodeP x = b := ⟨_, rfl⟩
  rw [hnp] at HNE ⊢
  obtain ⟨isl, hisl⟩ : ∃ b, x.isList = b := ⟨_, rfl⟩
  obtain ⟨t, htt⟩ : ∃ t, x.text = t := ⟨_, rfl⟩
  obtain ⟨m, hm⟩ : ∃ m, x.list.length = m := ⟨_, rfl⟩
  rw [hisl, hm] at HNE
  rw [hm] at HRR
  have HM := Lib.hid hm
  have hq0 := (HasCells.new w [.bool x.isList, .string ⟨x.text.toArray⟩, .slice p x.list.length c] 58).alloc (.cells #[.bool false] 4)
  have hz0 : HasCells ((w.alloc (.cells #[.bool x.isList, .string ⟨x.text.toArray⟩, .slice p x.list.length c] 58)).alloc (.cells #[.bool false] 4)) (w.heap.size + 1) [.bool false] 4 := by
    have h := HasCells.new (w.alloc (.cells #[.bool x.isList, .string ⟨x.text.toArray⟩, .slice p x.list.length c] 58)) [.bool false] 4
    rwa [World.size_alloc] at h
  obtain ⟨w0, hw0⟩ : ∃ W, (w.alloc (.cells #[.bool x.isList, .string ⟨x.text.toArray⟩, .slice p x.list.length c] 58)).alloc (.cells #[.bool false] 4) = W := ⟨_, rfl⟩
  rw [show (w.alloc (.cells ([.bool x.isList, .string ⟨x.text.toArray⟩, .slice p x.list.length c] : List Value).toArray 58)).alloc (.cells #[.bool false] 4) = w0 from hw0] at hq0
  rw [hw0] at hz0 HLO
  have hs0 : w0.heap.size = w.heap.size + 2 := by rw [← hw0]; simp
  rw [hisl, htt, hm] at hq0 ⊢
  have HW0 := Lib.hid (show (w.alloc (.cells #[.bool isl, .string ⟨t.toArray⟩, .slice p m c] 58)).alloc (.cells #[.bool false] 4) = w0 from by rw [← hisl, ← htt, ← hm]; exact hw0)
  have HQ0 := Lib.hid hq0
  have HZ0 := Lib.hid hz0
  have HS0 := Lib.hid hs0
  have c0 := hq0.cell (j := 0) rfl
  have c2 := hq0.cell (j := 2) rfl
  have r0 := hz0.cell (j := 0) rfl
  have rf := hz0.frozen 0
  clear hN hsz hsm hr hlo hnp hisl htt hm hw0 hs0 hq0 hz0
  have ENTER : ∀ {Q : Prop}, Q → Q := fun h => h
  cases isl with
  | false =>
    have hf : np = false := HNE.out
    subst hf
    clear HNE
    refine (callsIn_wide (n := 9)).1 ?_
    refine callsIn_of_wp_marks Tryd.func62 rfl trivial ?_ rfl
    simp only [Tryd.ntmps62, List.size_toArray, List.length_cons, List.length_nil, Nat.reduceAdd, Nat.reduceSub, Array.replicate_succ, Array.replicate_zero, List.push_toArray, List.append_toArray, List.nil_append, List.cons_append]
    gi_wp2_with (rw [HW0.out])
    refine ⟨_, results_bool rfl _ _ (w.heap.size + 1) false (by rfl) ((HZ0.out.set 0 (.bool false)).cell (j := 0) rfl), ?_⟩
    exact ⟨rfl, (HLO.out).setCell (p := ⟨w.heap.size + 1, 0, none⟩) (show w.heap.size ≤ w.heap.size + 1 by omega) _⟩
  | true =>
    by_cases h17 : m = 17
    · subst h17
      have hnb : np = brOk x.list := HNE.out.trans (by simp)
      have HNB := Lib.hid (hnb.trans (brOk_refs HM.out))
      clear hnb HNE
      have c1 := HQ0.out.cell (j := 1) rfl
      refine (callsIn_wide (n := 9)).1 ?_
      refine callsIn_of_wp_marks Tryd.func62 rfl trivial ?_ rfl
      simp only [Tryd.ntmps62, List.size_toArray, List.length_cons, List.length_nil, Nat.reduceAdd, Nat.reduceSub, Array.replicate_succ, Array.replicate_zero, List.push_toArray, List.append_toArray, List.nil_append, List.cons_append]
      gi_wp2_with (first | rw [HW0.out] | (refine ⟨trivial, ?_⟩; gi_at_call 89; refine (refs_any Fence.wide _ trivial rfl true ⟨t.toArray⟩ p 17 c _).mono ?_; rintro e w' ⟨rfl, rfl⟩))
      obtain ⟨W0, hW0⟩ : ∃ W, w0.alloc (.cells #[.bool true, .string ⟨t.toArray⟩, .slice p 17 c] 58) = W := ⟨_, rfl⟩
      have hb0 : Below w0.heap.size w0 W0 := by rw [← hW0]; exact laid1 w0 _
      have hbx : HasCells W0 w0.heap.size [.bool true, .string ⟨t.toArray⟩, .slice p 17 c] 58 := by rw [← hW0]; exact HasCells.new w0 _ _
      have hzs : W0.heap.size = w0.heap.size + 1 := by rw [← hW0]; simp
      have HR0 := Lib.hid (show Reads W0 w0.heap.size (.slice p 17 c) x.list from HRR.out.below (HLO.out.trans (hb0.mono HLO.out.size)) HLO.out.size)
      have hI0 : (∀ q ∈ ([] : List ElR), isRefP q.1 = true) ∧ HasCells W0 (w.heap.size + 1) [.bool false] 4 ∧ HasCells W0 w.heap.size [.bool true, .string ⟨t.toArray⟩, .slice p 17 c] 58 ∧ Below w.heap.size w W0 ∧ w0.heap.size + 1 ≤ W0.heap.size :=
        ⟨(fun q h => by cases h), HZ0.out.after hb0, HQ0.out.after hb0, HLO.out.trans (hb0.mono HLO.out.size), by omega⟩
      rw [hW0]
      have HBX := Lib.hid hbx
      clear hW0 hb0 hbx c0 c1 c2 r0 rf
      have hs1 : w.heap.size + 2 ≤ w0.heap.size := by have := HS0.out; omega
      have hzs2 : w0.heap.size + 1 ≤ W0.heap.size := by omega
      clear hzs
      have hms : ∀ y ∈ x.list.take 16, y ∈ x.list := fun y hy => List.mem_of_mem_take hy
      have HMS := Lib.hid hms
      clear hms
      refine wpIn_rangeFunc_X rfl (by omega) (gf := 119) (lb := #[.pointer (some ⟨w0.heap.size, 0, none⟩)]) rfl trivial (enters_of Tryd.func119 (by kernel_rfl) rfl)
        (encs := encR) (Step := StepP) (Good := GoodR (x.list.take 16) w0.heap.size) (Kp := KeepB (w0.heap.size + 1)) (S := fun xs => RelR (x.list.take 16) xs ∧ xs.map Prod.fst = refsOf (x.list.take 16)) (Sp := RelR (x.list.take 16)) (w0 := W0)
        (fun l J Jx W1 hW hJs _ hY h0 => refs_body _ (by omega) l w0.heap.size true ⟨t.toArray⟩ x.list p c HM.out J Jx hJs hY W1 (HBX.out.below hW (by omega)) (HR0.out.below (hW.mono (by omega)) (Nat.le_refl _)) h0)
        KeepB.trans (fun W1 l o o' hl _ _ _ => ⟨by simp, fun g hg => World.putObj_heap_other (by omega)⟩) (Below.refl _ _) (fun _ => rfl)
        (fun A B k o hst hk hA _ => (Below.block hst k (Array.getElem?_eq_some_iff.1 hA).1).trans hA)
        (fun pre W1 => (∀ q ∈ pre, isRefP q.1 = true) ∧ HasCells W1 (w.heap.size + 1) [.bool false] 4 ∧ HasCells W1 w.heap.size [.bool true, .string ⟨t.toArray⟩, .slice p 17 c] 58 ∧ Below w.heap.size w W1 ∧ w0.heap.size + 1 ≤ W1.heap.size)
        (fun cd pre W1 => cd = .ret ∧ (∃ q ∈ pre, isRefP q.1 = false) ∧ HasCells W1 (w.heap.size + 1) [.bool false] 4 ∧ Below w.heap.size w W1)
        (fun pre x1 a' W1 => ∃ xb u n1 c1, x1.2 = .slice u n1 c1 ∧ a' = { tmps := #[.agg #[.bool true, .string ⟨t.toArray⟩, .slice p 17 c], .pointer (some ⟨w.heap.size, 0, none⟩), .pointer (some ⟨w.heap.size + 1, 0, none⟩), .pointer (some ⟨xb, 0, none⟩), undef, undef, undef, .bool false, .pointer (some ⟨w.heap.size, 0, none⟩), .bool true, .bool false, .bool true, .pointer (some ⟨w.heap.size, 2, none⟩), .slice p 17 c, .int .i64 17, .bool true, .agg #[.bool true, .string ⟨t.toArray⟩, .slice p 17 c], .func (.func 119) #[] #[.pointer (some ⟨w0.heap.size, 0, none⟩)], .agg #[.bool x1.1.isList, .string ⟨x1.1.text.toArray⟩, .slice u n1 c1], undef, undef, undef, undef, undef, undef, undef, undef, undef, undef, undef, undef, undef, undef, undef, undef, undef, undef, undef, undef, undef, undef, undef, undef, undef, undef, undef, undef, undef, undef, undef, undef, undef, undef, undef, undef, undef, undef, undef, undef, undef, undef, undef, undef, undef, undef, undef, undef, undef, undef, undef, undef, undef, undef, undef, undef, undef, undef, undef, undef, undef, undef, undef], defers := [] } ∧ x1.1 ∈ x.list ∧ HasCells W1 xb [.bool x1.1.isList, .string ⟨x1.1.text.toArray⟩, .slice u n1 c1] 58 ∧ Reads W1 w0.heap.size x1.2 x1.1.list ∧
          ((∀ q ∈ pre, isRefP q.1 = true) ∧ HasCells W1 (w.heap.size + 1) [.bool false] 4 ∧ HasCells W1 w.heap.size [.bool true, .string ⟨t.toArray⟩, .slice p 17 c] 58 ∧ Below w.heap.size w W1 ∧ w0.heap.size + 1 ≤ W1.heap.size))
        ?own ?ownx1 ?ownx (fun pre A B ⟨h1, h2, h3, h4, h5⟩ hst => ⟨h1, h2.after hst, h3.after hst, h4.trans (Below.mono hst h4.size), Nat.le_trans h5 (Below.size hst)⟩) (fun cd pre A B ⟨h1, h2, h3, h4⟩ hst => ⟨h1, h2, h3.after hst, h4.trans (Below.mono hst h4.size)⟩) hI0 ?assign ?body ?done ?stop
      case own =>
        rintro pre W1 W2 row ⟨h1, h2, h3, h4, h5⟩ hg' hr
        have hr2 := fun r e => (hr r e).2
        exact ⟨h1, h2.grownI hg' hr2, h3.grownI hg' hr2, h4.grown hg' h4.size (fun r e => by have := (hr r e).1; omega), Nat.le_trans h5 hg'.size⟩
      case ownx1 =>
        rintro cd pre W1 W2 row ⟨h1, h2, h3, h4⟩ hg' hr
        have hr2 := fun r e => (hr r e).2
        exact ⟨h1, h2, h3.grownI hg' hr2, h4.grown hg' h4.size (fun r e => by have := (hr r e).1; omega)⟩
      case ownx =>
        rintro pre x1 a' _ W1 W2 row ⟨xb, u, n1, c1, e1, e2, e3, e4, e5, h1, h2, h3, h4, h5⟩ hg' hr
        have hr2 := fun r e => (hr r e).2
        exact ⟨xb, u, n1, c1, e1, e2, e3, e4.grownI hg' hr2, ReadsIn.grown e5 hg' (fun r e _ => hr2 r e) (fun _ h => h), h1, h2.grownI hg' hr2, h3.grownI hg' hr2, h4.grown hg' h4.size (fun r e => by have := (hr r e).1; omega), Nat.le_trans h5 hg'.size⟩
      case assign =>
        rintro l pre ⟨y, v⟩ Wa Wb K ⟨h1, h2, h3, h4, h5⟩ hst ⟨hym, -, ⟨u, n1, c1, hv⟩, hrd⟩ hK
        dsimp only at hym hv hrd
        subst hv
        have h2b := h2.after hst
        have h3b := h3.after hst
        have h4b := h4.trans (Below.mono hst h4.size)
        have h5b := Nat.le_trans h5 (Below.size hst)
        have HI := Lib.hid (And.intro h1 (And.intro h2b (And.intro h3b (And.intro h4b h5b))))
        have HKK := Lib.hid hK
        have HRD := Lib.hid hrd
        have HYM := Lib.hid hym
        clear h1 h2 h3 h4 h5 h2b h3b h4b hst hK hrd hym hI0
        simp only [encR]
        gi_wp2
        have hlo := laid1 Wb (.cells #[.bool y.isList, .string ⟨y.text.toArray⟩, .slice u n1 c1] 58)
        obtain ⟨i1, i2, i3, i4, i5⟩ := HI.out
        refine HKK.out _ _ ((KeepsOthers.alloc _ _).from _) (KeepB.below hlo h5b) ⟨Wb.heap.size, u, n1, c1, rfl, rfl, HMS.out y HYM.out, HasCells.new Wb _ _, HRD.out.below (hlo.mono (by omega)) (Nat.le_refl _), i1, i2.after hlo, i3.after hlo, i4.trans (hlo.mono i4.size), Nat.le_trans i5 hlo.size⟩
      case body =>
        rintro l pre ⟨y, v⟩ a' W1 hl ⟨r, hr⟩ ⟨xb, u, n1, c1, hv, rfl, hym, hxc, hrd, h1, h2, h3, h4, h5⟩
        dsimp only at hv hym hxc hrd
        subst hv
        have HRE := Lib.hid (HC.out y hym _ W1 (ReadsIn.mono hrd (fun g hg => Nat.lt_of_lt_of_le hg (by omega))))
        obtain ⟨ry, hry⟩ : ∃ b, isRefP y = b := ⟨_, rfl⟩
        rw [hry] at HRE
        have HRY := Lib.hid hry
        have x0 := hxc.cell (j := 0) rfl
        have x1 := hxc.cell (j := 1) rfl
        have x2 := hxc.cell (j := 2) rfl
        have H1 := Lib.hid h1
        have H2 := Lib.hid h2
        have H3 := Lib.hid h3
        have H4 := Lib.hid h4
        have H5 := Lib.hid h5
        clear hrd h1 h2 h3 h4 hry hxc hr hI0 hym
        dsimp only
        gi_wp2_with fail
        refine ⟨trivial, ?_⟩
        gi_at_call 90
        refine (callsIn_wide.2 HRE.out).mono ?_
        rintro e W2 ⟨rfl, hb2⟩
        have h2b := H2.out.after hb2
        have HB2 := Lib.hid hb2
        have H22 := Lib.hid h2b
        have r0 := h2b.cell (j := 0) rfl
        have rf := h2b.frozen 0
        clear hb2 h2b x0 x1 x2
        cases ry with
        | true =>
          gi_wp2
          refine ⟨keepsFrom_below HB2.out, KeepB.below HB2.out h5, (fun q hq => ?_), H22.out, H3.out.after HB2.out, H4.out.trans (HB2.out.mono H4.out.size), Nat.le_trans h5 HB2.out.size⟩
          rcases List.mem_append.1 hq with hq | hq
          · exact H1.out q hq
          · rw [List.mem_singleton] at hq
            rw [hq]
            exact HRY.out
        | false =>
          gi_wp2
          refine ⟨(keepsFrom_below HB2.out).trans ((KeepsOthers.setCell _ _ _).from _), rfl, ⟨_, List.mem_append_right _ (List.mem_singleton.2 rfl), HRY.out⟩, H22.out.set 0 _, (H4.out.trans (HB2.out.mono H4.out.size)).setCell (p := ⟨w.heap.size + 1, 0, none⟩) (show w.heap.size ≤ w.heap.size + 1 by omega) _⟩
      case done =>
        rintro D xs W1 hD ⟨hrel, hmap⟩ ⟨h1, h2, h3, h4, h5⟩ hK
        obtain ⟨-, g, o, hp, hg, hat⟩ := Reads.at HRR.out (by decide)
        subst hp
        have hall : (refsOf (x.list.take 16)).all isRefP = true := by
          rw [← hmap, List.all_eq_true]
          intro y hy
          obtain ⟨q, hq, rfl⟩ := List.mem_map.1 hy
          exact h1 q hq
        obtain ⟨y, hy⟩ : ∃ y, x.list[16]? = some y := ⟨_, List.getElem?_eq_getElem (by rw [HM.out]; omega)⟩
        have hf : np = !y.isList := by rw [HNB.out, hall, List.getD_eq_getElem?_getD, hy]; rfl
        have k16 := (h4.cell (p := ⟨g, o + 16 * 3, none⟩) hg).trans (hat 16 y hy).1
        obtain ⟨yl, hyl⟩ : ∃ b, y.isList = b := ⟨_, rfl⟩
        rw [hyl] at k16 hf
        subst hf
        have c2 := h3.cell (j := 2) rfl
        have r0 := h2.cell (j := 0) rfl
        have rf := h2.frozen 0
        have H2 := Lib.hid h2
        have H4 := Lib.hid h4
        have HKD := Lib.hid hK
        have hDw : w.heap.size + 1 < D := by omega
        clear hrel hmap h1 h2 h3 h4 h5 hK hat hy hyl hall hI0
        gi_wp2
        have hf2 := H2.out.set 0 (.bool (!yl))
        have hbf := H4.out.setCell (p := ⟨w.heap.size + 1, 0, none⟩) (show w.heap.size ≤ w.heap.size + 1 by omega) (.bool (!yl))
        obtain ⟨Wf, hWf⟩ : ∃ W', W1.setCell ⟨w.heap.size + 1, 0, none⟩ (.bool (!yl)) = W' := ⟨_, rfl⟩
        have hK' : Wf.heap[D]? = some (.deferred (some [])) := by
          rw [← hWf]
          exact (Below.heap_setCell _ ⟨w.heap.size + 1, 0, none⟩ _ D (show D ≠ w.heap.size + 1 by omega)).trans HKD.out
        rw [hWf] at hf2 hbf ⊢
        have hgr := grownBy_putObjP Wf D (.deferred none)
        have hrow : ∀ r, some D = some r → ∃ o : Obj, Wf.heap[r]? = some o ∧ o.isCells = false := fun r e => by cases e; exact ⟨_, hK', rfl⟩
        refine ⟨by simp, .inl ⟨_, _, rfl, run_takeDeferred hK', ?_⟩⟩
        refine ⟨_, results_bool rfl _ _ (w.heap.size + 1) (!yl) (by rfl) ((hf2.grownI hgr hrow).cell (j := 0) rfl), ?_⟩
        exact ⟨rfl, hbf.grown hgr hbf.size (fun r e => by cases e; omega)⟩
      case stop =>
        rintro D cd pre W1 hD hrel ⟨rfl, ⟨q, hq, hqf⟩, h2, h4⟩ hK
        have hf : np = false := by
          obtain ⟨q1, q2⟩ := hrel q hq
          have hall : (refsOf (x.list.take 16)).all isRefP = false := List.all_eq_false.2 ⟨q.1, List.mem_filter.2 ⟨q1, by rw [q2]; rfl⟩, by rw [hqf]; simp⟩
          rw [HNB.out, hall]
          rfl
        subst hf
        have H2 := Lib.hid h2
        have H4 := Lib.hid h4
        have HKD := Lib.hid hK
        have hDw : w.heap.size + 1 < D := by omega
        clear hrel hq hqf h2 h4 hK hI0
        gi_wp2
        have hgr := grownBy_putObjP W1 D (.deferred none)
        have hrow : ∀ r, some D = some r → ∃ o : Obj, W1.heap[r]? = some o ∧ o.isCells = false := fun r e => by cases e; exact ⟨_, HKD.out, rfl⟩
        refine ⟨by simp, .inl ⟨_, _, rfl, run_takeDeferred HKD.out, ?_⟩⟩
        refine ⟨_, results_bool rfl _ _ (w.heap.size + 1) false (by rfl) ((H2.out.grownI hgr hrow).cell (j := 0) rfl), ?_⟩
        exact ⟨rfl, H4.out.grown hgr H4.out.size (fun r e => by cases e; omega)⟩
    · have hn2 : np = (decide (m = 2) && twoOk x.list) := by have h := HNE.out; rw [if_neg h17, Bool.true_and] at h; exact h
      have g1 : ((m : Int) == 17) = false := by simp; omega
      have g2 : ¬ ((m : Int) = 17) := by omega
      clear HNE
      by_cases h2 : m = 2
      · subst h2
        rw [decide_eq_true rfl, Bool.true_and] at hn2
        obtain ⟨y0, y1, hxl⟩ : ∃ a b, x.list = [a, b] := by
          have h := HM.out
          match hl : x.list, h with
          | [a, b], _ => exact ⟨a, b, rfl⟩
        obtain ⟨-, g, o, rfl, hg, hat⟩ := Reads.at HRR.out (by decide)
        rw [hxl] at hat hn2
        obtain ⟨a00, a01, _⟩ := hat 0 y0 rfl
        obtain ⟨a10, a11, v1, a12, hv1⟩ := hat 1 y1 rfl
        obtain ⟨q1, n1, rfl⟩ := hv1.form
        simp only [Nat.zero_mul, Nat.one_mul, Nat.add_zero, Nat.add_assoc, Nat.reduceAdd] at a00 a01 a10 a11 a12
        have hy1m : y1 ∈ x.list := by rw [hxl]; simp
        have HRE := Lib.hid (fun V W (hr : Reads W W.heap.size V y1.list) => HC.out y1 hy1m V W hr)
        have HVB := Lib.hid (fun W (hb : Below w.heap.size w W) => (hv1.below hb hb.size : Reads W W.heap.size _ _))
        have h0l := HSM.out y0 (by rw [hxl]; simp)
        obtain ⟨y1t, hy1t⟩ : ∃ t, y1.text = t := ⟨_, rfl⟩
        obtain ⟨y0t, hy0t⟩ : ∃ t, y0.text = t := ⟨_, rfl⟩
        obtain ⟨y1l, hy1l⟩ : ∃ n, y1.list.length = n := ⟨_, rfl⟩
        rw [hy1t] at a11 HRE
        rw [hy1l] at a12 HVB
        rw [hy0t] at a01 h0l
        have hn3 : np = (!y0.isList && (decide ((read y0t).2.2 = 0) && (if (read y0t).2.1 then !y1.isList && !y1t.isEmpty else !(read y0t).1.isEmpty && isRefP y1))) := by rw [hn2, ← hy0t, ← hy1t]; rfl
        have hrd := read_any ⟨y0t.toArray⟩
        rw [show (⟨y0t.toArray⟩ : ByteArray).data.toList = y0t from rfl] at hrd
        have hre := read_err y0t
        obtain ⟨rp, lf, er, hrr⟩ : ∃ a b c, read y0t = (a, b, c) := ⟨_, _, _, rfl⟩
        rw [readV_of hrr] at hrd
        rw [hrr] at hn3 hre
        dsimp only at hn3 hre
        have H1 := Lib.hid (fun W => hrd W (by show y0t.length ≤ _; omega))
        have HCE := Lib.hid (fun W (hb : Below w.heap.size w W) => (show (W.cell? ⟨g, o, none⟩ = some (.bool y0.isList) ∧ W.cell? ⟨g, o + 1, none⟩ = some (.string ⟨y0t.toArray⟩)) ∧ W.cell? ⟨g, o + 3, none⟩ = some (.bool y1.isList) ∧ W.cell? ⟨g, o + 3 + 1, none⟩ = some (.string ⟨y1t.toArray⟩) ∧ W.cell? ⟨g, o + 3 + 2, none⟩ = some (.slice q1 y1l n1) from
          ⟨⟨(hb.cell (p := ⟨g, o, none⟩) hg).trans a00, (hb.cell (p := ⟨g, o + 1, none⟩) hg).trans a01⟩, (hb.cell (p := ⟨g, o + 3, none⟩) hg).trans a10, (hb.cell (p := ⟨g, o + 3 + 1, none⟩) hg).trans a11, (hb.cell (p := ⟨g, o + 3 + 2, none⟩) hg).trans a12⟩))
        obtain ⟨⟨k0, k1⟩, -⟩ := HCE.out _ HLO.out
        obtain ⟨l0, hl0⟩ : ∃ b, y0.isList = b := ⟨_, rfl⟩
        obtain ⟨l1, hl1⟩ : ∃ b, y1.isList = b := ⟨_, rfl⟩
        obtain ⟨rf1, hrf1⟩ : ∃ b, isRefP y1 = b := ⟨_, rfl⟩
        rw [hl0] at k0 hn3 HCE
        rw [hl1] at hn3 HRE HCE
        rw [hrf1] at hn3 HRE
        have HN3 := Lib.hid hn3
        clear a00 a01 a10 a11 a12 hat hxl hv1 hy1m h0l hy1t hy0t hy1l hn2 hn3 hrd hrr h17 hl0 hl1 hrf1 HSM HC
        cases l0 with
        | true =>
          have hf : np = false := HN3.out
          subst hf
          clear HN3 hre
          refine (callsIn_wide (n := 9)).1 ?_
          refine callsIn_of_wp_marks Tryd.func62 rfl trivial ?_ rfl
          simp only [Tryd.ntmps62, List.size_toArray, List.length_cons, List.length_nil, Nat.reduceAdd, Nat.reduceSub, Array.replicate_succ, Array.replicate_zero, List.push_toArray, List.append_toArray, List.nil_append, List.cons_append]
          gi_wp2_with (rw [HW0.out])
          refine ⟨_, results_bool rfl _ _ (w.heap.size + 1) false (by rfl) ((HZ0.out.set 0 (.bool false)).cell (j := 0) rfl), ?_⟩
          exact ⟨rfl, (HLO.out).setCell (p := ⟨w.heap.size + 1, 0, none⟩) (show w.heap.size ≤ w.heap.size + 1 by omega) _⟩
        | false =>
          rcases hre with rfl | ⟨rfl, rfl⟩
          · cases lf with
            | true =>
              cases l1 with
              | true =>
                have hf : np = false := HN3.out
                subst hf
                clear HN3
                refine (callsIn_wide (n := 9)).1 ?_
                refine callsIn_of_wp_marks Tryd.func62 rfl trivial ?_ rfl
                simp only [Tryd.ntmps62, List.size_toArray, List.length_cons, List.length_nil, Nat.reduceAdd, Nat.reduceSub, Array.replicate_succ, Array.replicate_zero, List.push_toArray, List.append_toArray, List.nil_append, List.cons_append]
                gi_wp2_with (rw [HW0.out])
                refine ⟨trivial, ?_⟩
                gi_at_call 63
                refine (callsIn_wide.2 (H1.out _)).mono ?_
                rintro e w1 ⟨rfl, hb1⟩
                have HB1 := Lib.hid (HLO.out.trans (hb1.mono HLO.out.size))
                have hz1 := HZ0.out.after hb1
                have hq1 := HQ0.out.after hb1
                have HZ1 := Lib.hid hz1
                obtain ⟨-, k3, k4, k5⟩ := HCE.out _ HB1.out
                clear c0 c2 r0 rf k0 k1
                have c2 := hq1.cell (j := 2) rfl
                have r0 := hz1.cell (j := 0) rfl
                have rf := hz1.frozen 0
                clear hz1 hq1 hb1
                gi_wp2_with fail
                refine ⟨_, results_bool rfl _ _ (w.heap.size + 1) false (by rfl) ((HZ1.out.set 0 (.bool false)).cell (j := 0) rfl), ?_⟩
                exact ⟨rfl, (HB1.out).setCell (p := ⟨w.heap.size + 1, 0, none⟩) (show w.heap.size ≤ w.heap.size + 1 by omega) _⟩
              | false =>
                by_cases hte : y1t = []
                · subst hte
                  have hf : np = false := HN3.out
                  subst hf
                  clear HN3
                  refine (callsIn_wide (n := 9)).1 ?_
                  refine callsIn_of_wp_marks Tryd.func62 rfl trivial ?_ rfl
                  simp only [Tryd.ntmps62, List.size_toArray, List.length_cons, List.length_nil, Nat.reduceAdd, Nat.reduceSub, Array.replicate_succ, Array.replicate_zero, List.push_toArray, List.append_toArray, List.nil_append, List.cons_append]
                  gi_wp2_with (rw [HW0.out])
                  refine ⟨trivial, ?_⟩
                  gi_at_call 63
                  refine (callsIn_wide.2 (H1.out _)).mono ?_
                  rintro e w1 ⟨rfl, hb1⟩
                  have HB1 := Lib.hid (HLO.out.trans (hb1.mono HLO.out.size))
                  have hz1 := HZ0.out.after hb1
                  have hq1 := HQ0.out.after hb1
                  have HZ1 := Lib.hid hz1
                  obtain ⟨-, k3, k4, k5⟩ := HCE.out _ HB1.out
                  clear c0 c2 r0 rf k0 k1
                  have c2 := hq1.cell (j := 2) rfl
                  have r0 := hz1.cell (j := 0) rfl
                  have rf := hz1.frozen 0
                  clear hz1 hq1 hb1
                  gi_wp2_with fail
                  refine ⟨_, results_bool rfl _ _ (w.heap.size + 1) false (by rfl) ((HZ1.out.set 0 (.bool false)).cell (j := 0) rfl), ?_⟩
                  exact ⟨rfl, (HB1.out).setCell (p := ⟨w.heap.size + 1, 0, none⟩) (show w.heap.size ≤ w.heap.size + 1 by omega) _⟩
                · have hf : np = true := by
                    rw [HN3.out]
                    cases y1t with
                    | nil => exact absurd rfl hte
                    | cons a r => rfl
                  subst hf
                  have q9 : (y1t == []) = false := beq_eq_false_iff_ne.2 hte
                  clear HN3 hte
                  refine (callsIn_wide (n := 9)).1 ?_
                  refine callsIn_of_wp_marks Tryd.func62 rfl trivial ?_ rfl
                  simp only [Tryd.ntmps62, List.size_toArray, List.length_cons, List.length_nil, Nat.reduceAdd, Nat.reduceSub, Array.replicate_succ, Array.replicate_zero, List.push_toArray, List.append_toArray, List.nil_append, List.cons_append]
                  gi_wp2_with (rw [HW0.out])
                  refine ⟨trivial, ?_⟩
                  gi_at_call 63
                  refine (callsIn_wide.2 (H1.out _)).mono ?_
                  rintro e w1 ⟨rfl, hb1⟩
                  have HB1 := Lib.hid (HLO.out.trans (hb1.mono HLO.out.size))
                  have hz1 := HZ0.out.after hb1
                  have hq1 := HQ0.out.after hb1
                  have HZ1 := Lib.hid hz1
                  obtain ⟨-, k3, k4, k5⟩ := HCE.out _ HB1.out
                  clear c0 c2 r0 rf k0 k1
                  have c2 := hq1.cell (j := 2) rfl
                  have r0 := hz1.cell (j := 0) rfl
                  have rf := hz1.frozen 0
                  clear hz1 hq1 hb1
                  gi_wp2_with fail
                  refine ⟨_, results_bool rfl _ _ (w.heap.size + 1) true (by rfl) ((HZ1.out.set 0 (.bool true)).cell (j := 0) rfl), ?_⟩
                  exact ⟨rfl, (HB1.out).setCell (p := ⟨w.heap.size + 1, 0, none⟩) (show w.heap.size ≤ w.heap.size + 1 by omega) _⟩
            | false =>
              by_cases hpe : rp = []
              · subst hpe
                have hf : np = false := HN3.out
                subst hf
                clear HN3
                refine (callsIn_wide (n := 9)).1 ?_
                refine callsIn_of_wp_marks Tryd.func62 rfl trivial ?_ rfl
                simp only [Tryd.ntmps62, List.size_toArray, List.length_cons, List.length_nil, Nat.reduceAdd, Nat.reduceSub, Array.replicate_succ, Array.replicate_zero, List.push_toArray, List.append_toArray, List.nil_append, List.cons_append]
                gi_wp2_with (rw [HW0.out])
                refine ⟨trivial, ?_⟩
                gi_at_call 63
                refine (callsIn_wide.2 (H1.out _)).mono ?_
                rintro e w1 ⟨rfl, hb1⟩
                have HB1 := Lib.hid (HLO.out.trans (hb1.mono HLO.out.size))
                have hz1 := HZ0.out.after hb1
                have hq1 := HQ0.out.after hb1
                have HZ1 := Lib.hid hz1
                obtain ⟨-, k3, k4, k5⟩ := HCE.out _ HB1.out
                clear c0 c2 r0 rf k0 k1
                have c2 := hq1.cell (j := 2) rfl
                have r0 := hz1.cell (j := 0) rfl
                have rf := hz1.frozen 0
                clear hz1 hq1 hb1
                gi_wp2_with fail
                refine ⟨trivial, ?_⟩
                gi_wp2_with fail
                refine ⟨_, results_bool rfl _ _ (w.heap.size + 1) false (by rfl) ((HZ1.out.set 0 (.bool false)).cell (j := 0) rfl), ?_⟩
                exact ⟨rfl, (HB1.out).setCell (p := ⟨w.heap.size + 1, 0, none⟩) (show w.heap.size ≤ w.heap.size + 1 by omega) _⟩
              · have hf : np = rf1 := by
                  rw [HN3.out]
                  cases rp with
                  | nil => exact absurd rfl hpe
                  | cons a r => rfl
                subst hf
                have q9 : (rp == []) = false := beq_eq_false_iff_ne.2 hpe
                clear HN3 hpe
                refine (callsIn_wide (n := 9)).1 ?_
                refine callsIn_of_wp_marks Tryd.func62 rfl trivial ?_ rfl
                simp only [Tryd.ntmps62, List.size_toArray, List.length_cons, List.length_nil, Nat.reduceAdd, Nat.reduceSub, Array.replicate_succ, Array.replicate_zero, List.push_toArray, List.append_toArray, List.nil_append, List.cons_append]
                gi_wp2_with (rw [HW0.out])
                refine ⟨trivial, ?_⟩
                gi_at_call 63
                refine (callsIn_wide.2 (H1.out _)).mono ?_
                rintro e w1 ⟨rfl, hb1⟩
                have HB1 := Lib.hid (HLO.out.trans (hb1.mono HLO.out.size))
                have hz1 := HZ0.out.after hb1
                have hq1 := HQ0.out.after hb1
                have HZ1 := Lib.hid hz1
                obtain ⟨-, k3, k4, k5⟩ := HCE.out _ HB1.out
                clear c0 c2 r0 rf k0 k1
                have c2 := hq1.cell (j := 2) rfl
                have r0 := hz1.cell (j := 0) rfl
                have rf := hz1.frozen 0
                clear hz1 hq1 hb1
                gi_wp2_with fail
                refine ⟨trivial, ?_⟩
                gi_at_call 90
                refine (callsIn_wide.2 (HRE.out _ _ (HVB.out _ HB1.out))).mono ?_
                rintro e w2 ⟨rfl, hb2⟩
                have HB2 := Lib.hid (HB1.out.trans (hb2.mono HB1.out.size))
                have hz2 := HZ1.out.after hb2
                have HZ2 := Lib.hid hz2
                clear r0 rf k3 k4 k5
                have r0 := hz2.cell (j := 0) rfl
                have rf := hz2.frozen 0
                clear hz2 hb2
                gi_wp2_with fail
                refine ⟨_, results_bool rfl _ _ (w.heap.size + 1) np (by rfl) ((HZ2.out.set 0 (.bool np)).cell (j := 0) rfl), ?_⟩
                exact ⟨rfl, (HB2.out).setCell (p := ⟨w.heap.size + 1, 0, none⟩) (show w.heap.size ≤ w.heap.size + 1 by omega) _⟩
          · have hf : np = false := by rw [HN3.out]; rfl
            subst hf
            clear HN3
            refine (callsIn_wide (n := 9)).1 ?_
            refine callsIn_of_wp_marks Tryd.func62 rfl trivial ?_ rfl
            simp only [Tryd.ntmps62, List.size_toArray, List.length_cons, List.length_nil, Nat.reduceAdd, Nat.reduceSub, Array.replicate_succ, Array.replicate_zero, List.push_toArray, List.append_toArray, List.nil_append, List.cons_append]
            gi_wp2_with (rw [HW0.out])
            refine ⟨trivial, ?_⟩
            gi_at_call 63
            refine (callsIn_wide.2 (H1.out _)).mono ?_
            rintro e w1 ⟨rfl, hb1⟩
            have HB1 := Lib.hid (HLO.out.trans (hb1.mono HLO.out.size))
            have hz1 := HZ0.out.after hb1
            have hq1 := HQ0.out.after hb1
            have HZ1 := Lib.hid hz1
            obtain ⟨-, k3, k4, k5⟩ := HCE.out _ HB1.out
            clear c0 c2 r0 rf k0 k1
            have c2 := hq1.cell (j := 2) rfl
            have r0 := hz1.cell (j := 0) rfl
            have rf := hz1.frozen 0
            clear hz1 hq1 hb1
            gi_wp2_with fail
            refine ⟨trivial, ?_⟩
            gi_wp2_with fail
            refine ⟨_, results_bool rfl _ _ (w.heap.size + 1) false (by rfl) ((HZ1.out.set 0 (.bool false)).cell (j := 0) rfl), ?_⟩
            exact ⟨rfl, (HB1.out).setCell (p := ⟨w.heap.size + 1, 0, none⟩) (show w.heap.size ≤ w.heap.size + 1 by omega) _⟩
      · have hf : np = false := by rw [hn2, decide_eq_false h2]; rfl
        subst hf
        have g3 : ((m : Int) == 2) = false := by simp; omega
        have g4 : ¬ ((m : Int) = 2) := by omega
        have g5 : ((m : Int) != 2) = true := by simp; omega
        clear hn2 h2 h17
        refine (callsIn_wide (n := 9)).1 ?_
        refine callsIn_of_wp_marks Tryd.func62 rfl trivial ?_ rfl
        simp only [Tryd.ntmps62, List.size_toArray, List.length_cons, List.length_nil, Nat.reduceAdd, Nat.reduceSub, Array.replicate_succ, Array.replicate_zero, List.push_toArray, List.append_toArray, List.nil_append, List.cons_append]
        gi_wp2_with (rw [HW0.out])
        refine ⟨_, results_bool rfl _ _ (w.heap.size + 1) false (by rfl) ((HZ0.out.set 0 (.bool false)).cell (j := 0) rfl), ?_⟩
        exact ⟨rfl, (HLO.out).setCell (p := ⟨w.heap.size + 1, 0, none⟩) (show w.heap.size ≤ w.heap.size + 1 by omega) _⟩
theorem nodeIs_all (N : Nat) : NodeIs N := by
  induction N with
  | zero => intro x v w hsz _ _; have := x.size_pos; omega
  | succ N ih => exact isNode_of N (isRef_of N ih)
theorem isNode_any (x : Item) (v : Value) (w : World) (hsm : Small x) (hr : Reads w w.heap.size v x.list) :
    Calls Tryd.prog 62 #[.agg #[.bool x.isList, .string ⟨x.text.toArray⟩, v]] w fun e w' => e = .returned (.bool (isNodeP x)) ∧ Below w.heap.size w w' := nodeIs_all x.size x v w (Nat.le_refl _) hsm hr
end Go.Proofs.YthicdhnjincflaaDoor
