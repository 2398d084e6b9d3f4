/- What the walks take: TrfF, NdsA. -/
import Derived.Test.YthicdhnjincflaaDoorS4
import Derived.Test.YthicdhnjincflaaDoorS9
import Derived.Test.YthicdhnjincflaaDoorS13
import Derived.Test.YthicdhnjincflaaDoorS18
import Derived.Test.YthicdhnjincflaaDoorS19
import Derived.Test.YthicdhnjincflaaDoorS20
import Derived.Lib.Hide
import Derived.Deep.RegionHeld3
namespace Go.Proofs.YthicdhnjincflaaDoor
open Go.RowKit Go.Shelf Go.Lib
attribute [local go_sem] Oper.semAt_some
theorem infoItemS : (Tryd.prog.info? 58).map (·.size) = some 3 := by kernel_rfl
end Go.Proofs.YthicdhnjincflaaDoor
/- Contracts of the reference's trie: Bytes, reference, Node. -/
namespace Go.Proofs.YthicdhnjincflaaDoor
open Go.RowKit Go.Shelf Go.Lib
attribute [local go_sem] Oper.semAt_some
theorem rkSum_l {l k : List UInt8} (h : keccakL l = k) (hl : l.length ≤ 1099511627776) (w : World) : Calls Tryd.prog 33 #[.string ⟨l.toArray⟩] w fun e w' => e = .returned (.string ⟨k.toArray⟩) ∧ Below w.heap.size w w' := by
  subst h
  exact rkSum_any ⟨l.toArray⟩ w hl
/-- how many items there are in one is bounded by its bytes -/
theorem size_put (n : Nat) : (∀ x : Item, x.size ≤ n → wrong x = false → x.size ≤ (put x).length) ∧ (∀ l : List Item, sizeAll l ≤ n → wrongAny l = false → sizeAll l ≤ (putAll l).length) := by
  induction n with
  | zero => exact ⟨fun x h _ => by have := x.size_pos; omega, fun l h _ => by have := Nat.le_zero.1 h; omega⟩
  | succ n ih =>
    have h1 : ∀ x : Item, x.size ≤ n + 1 → wrong x = false → x.size ≤ (put x).length := fun x h hw => by
      cases x with
      | mk b t l =>
        have hsz : (Item.mk b t l).size = sizeAll l + 1 := Item.size_eq _
        cases b with
        | true =>
          have hw' : wrongAny l = false := by
            rw [wrong_eq] at hw
            rw [wrongAny_any]
            have hw2 : (!t.isEmpty || l.any wrong) = false := hw
            exact (Bool.or_eq_false_iff.1 hw2).2
          have h2 := ih.2 l (by omega) hw'
          have h3 : (putAll l).length + 1 ≤ (put (Item.mk true t l)).length := (tp_framed (putAll l) 192).1
          omega
        | false =>
          have hw' : l = [] := by
            rw [wrong_eq] at hw
            have hw2 : (!l.isEmpty) = false := hw
            simpa using hw2
          subst hw'
          have h3 : 1 ≤ (put (Item.mk false t [])).length := (tp_text t).1
          have h4 : (Item.mk false t []).size = 1 := rfl
          omega
    refine ⟨h1, fun l => ?_⟩
    induction l with
    | nil => intro _ _; exact Nat.zero_le _
    | cons a r ih2 =>
      intro h hw
      have hs : sizeAll (a :: r) = a.size + sizeAll r := rfl
      have hp : putAll (a :: r) = put a ++ putAll r := rfl
      have hw2 : (wrong a || wrongAny r) = false := hw
      obtain ⟨w1, w2⟩ := Bool.or_eq_false_iff.1 hw2
      have h3 := h1 a (by omega) w1
      have h4 := ih2 (by omega) w2
      rw [hs, hp, List.length_append]
      omega
theorem fit_size {b : Bool} {x : Item} (h : Fit b x) : x.size ≤ 1099511627776 ∧ (put x).length ≤ 1099511627776 := by
  have h1 := (size_put x.size).1 x (Nat.le_refl _) h.right
  have h2 := h.short
  omega
theorem GivesI.form {w w' : World} {x : Item} {e : Ending} (h : GivesI w x e w') : ∃ p n c, e = .returned (.agg #[.bool x.isList, .string ⟨x.text.toArray⟩, .slice p n c]) ∧ RIn w' w.heap.size (.slice p n c) x.list ∧ Below w.heap.size w w' := by
  obtain ⟨v, h1, h2, h3⟩ := h
  obtain ⟨p, c, rfl⟩ := h2.form
  exact ⟨p, _, c, h1, h2, h3⟩
end Go.Proofs.YthicdhnjincflaaDoor
/- Contract of the reference's Node: the node of pairs. -/
namespace Go.Proofs.YthicdhnjincflaaDoor
open Go.RowKit Go.Shelf Go.Lib
attribute [local go_sem] Oper.semAt_some
end Go.Proofs.YthicdhnjincflaaDoor
/- Contract of the reference's Node: more pairs; and of the three functions of a node, at every fuel. -/
namespace Go.Proofs.YthicdhnjincflaaDoor
open Go.RowKit Go.Shelf Go.Lib
attribute [local go_sem] Oper.semAt_some
theorem OwnI.blk {base : Nat} {w w' : World} {v : Value} {l : List (Item × Value)} (h : OwnI base w v l) (hb : ∀ k, v.ownBlock = some k → w'.heap[k]? = w.heap[k]?) : OwnI base w' v l := by
  obtain ⟨h1, h2⟩ := h
  refine ⟨h1, ?_⟩
  rcases h2 with h2 | ⟨g, cap, cur, hv, hg, hh, r⟩
  · exact .inl h2
  · exact .inr ⟨g, cap, cur, hv, hg, by rw [hb g (by rw [hv]; rfl)]; exact hh, r⟩
/-- a store below a row of items -/
theorem RowI.setLow {B : Nat} {W : World} {v : Value} {l : List (Item × Value)} (h : RowI B W v l) {g j : Nat} (hg : g < B) (u : Value) : RowI B (W.setCell ⟨g, j, none⟩ u) v l :=
  ⟨h.1.blk fun k e => Below.heap_setCell W ⟨g, j, none⟩ u k (by have := (h.1.lt' k e).1; show k ≠ g; omega), fun q hq => (h.2 q hq).kept (fun k u' o hk hc => (World.cell?_setCell_other _ _ _ _ (fun e => by cases e; have := hk.1; omega)).trans hc) (fun k hk => ⟨hk.1, by rw [World.size_setCell]; exact hk.2.1, hk.2.2⟩)⟩
def childP (f : Nat) (ps : List PairD) (d h : Nat) : Item := match havingP ps d (UInt8.ofNat h) with
  | [] => .none
  | x :: m => refI keccakL (nodeP keccakL f (x :: m) (d + 1))
theorem having_len (ps : List PairD) (d : Nat) (h : UInt8) : (havingP ps d h).length ≤ ps.length := List.length_filter_le _ _
end Go.Proofs.YthicdhnjincflaaDoor
/- Contracts of the reference's trie: told, way. -/
namespace Go.Proofs.YthicdhnjincflaaDoor
open Go.RowKit Go.Shelf Go.Lib
attribute [local go_sem] Oper.semAt_some
/-- a text as bytes -/
def bt (l : List UInt8) : ByteArray := ⟨l.toArray⟩
/-- what a call gives that appends to a row of texts -/
def GrowsS (base : Nat) (w : World) (v : Value) (out : List ByteArray) (e : Ending) (w' : World) : Prop :=
  ∃ p c, e = .returned (.slice p out.length c) ∧ OwnS base w' (.slice p out.length c) out ∧ Below base w w' ∧ w.heap.size ≤ w'.heap.size ∧ (∀ k, k < w.heap.size → v.ownBlock ≠ some k → w'.heap[k]? = w.heap[k]?) ∧
    ((Value.slice p out.length c).ownBlock = v.ownBlock ∨ ∀ k, (Value.slice p out.length c).ownBlock = some k → w.heap.size ≤ k)
theorem GrowsS.same {base : Nat} {w w' : World} {p : Option Addr} {c : Nat} {out : List ByteArray} (h : OwnS base w (.slice p out.length c) out) (hb : Below w.heap.size w w') (hbase : base ≤ w.heap.size) : GrowsS base w (.slice p out.length c) out (.returned (.slice p out.length c)) w' :=
  ⟨p, c, rfl, h.after hb, hb.mono hbase, hb.size, fun k hk _ => hb.block k hk, .inl rfl⟩
theorem GrowsS.trans {base : Nat} {w w1 wk w' : World} {v v1 : Value} {out1 out2 : List ByteArray} {e : Ending} (h1 : GrowsS base w v out1 (.returned v1) w1) (hb : Below w1.heap.size w1 wk) (hbase : base ≤ w.heap.size) (h2 : GrowsS base wk v1 out2 e w') : GrowsS base w v out2 e w' := by
  obtain ⟨p1, c1, e1, _, b1, s1, k1, o1⟩ := h1
  cases e1
  obtain ⟨p2, c2, e2, w2, b2, s2, k2, o2⟩ := h2
  have hs := hb.size
  refine ⟨p2, c2, e2, w2, (b1.trans (hb.mono (by omega))).trans b2, by omega, fun k hk hne => ?_, ?_⟩
  · rw [k2 k (by omega) (fun e => ?_), hb.block k (by omega), k1 k hk hne]
    rcases o1 with o1 | o1
    · exact hne (o1 ▸ e)
    · have := o1 k e; omega
  · rcases o2 with o2 | o2
    · rw [o2]
      rcases o1 with o1 | o1
      · exact .inl o1
      · exact .inr o1
    · exact .inr fun k e => by have := o2 k e; omega
/-- pairs that do not lie in a row that grows -/
def ApartV (v u : Value) : Prop := ∀ k, v.ownBlock = some k → u.ownBlock ≠ some k
theorem Pairs.blk {w : World} {p : Option Addr} {n c : Nat} {ps : List PairD} (h : Pairs w (.slice p n c) ps) (hne : ps ≠ []) : ∀ k, (Value.slice p n c).ownBlock = some k → k < w.heap.size := by
  obtain ⟨-, bk, o, rfl, h1, _⟩ := h.at hne
  intro k e
  cases e
  exact h1
theorem Pairs.first {w : World} {bk ob n c : Nat} {q : PairD} {r : List PairD} (h : Pairs w (.slice (some ⟨bk, ob, none⟩) n c) (q :: r)) : w.cell? ⟨bk, ob, none⟩ = some (.string ⟨q.1.toArray⟩) ∧ bk < w.heap.size := by
  obtain ⟨-, bk', ob', he, h1, h2⟩ := h.at (by simp)
  cases he
  have := (h2 0 q rfl).1
  rw [Nat.zero_mul, Nat.add_zero] at this
  exact ⟨this, h1⟩
theorem ApartV.next {v u u1 : Value} {n : Nat} (h : ApartV v u) (hb : ∀ k, v.ownBlock = some k → k < n) (hu : u1.ownBlock = u.ownBlock ∨ ∀ k, u1.ownBlock = some k → n ≤ k) : ApartV v u1 := fun k e e2 => by
  rcases hu with hu | hu
  · exact h k e (hu ▸ e2)
  · have := hu k e2; have := hb k e; omega
end Go.Proofs.YthicdhnjincflaaDoor
/- Contracts of the reference's trie: Right, Root, Prove. -/
namespace Go.Proofs.YthicdhnjincflaaDoor
open Go.RowKit Go.Shelf Go.Lib
attribute [local go_sem] Oper.semAt_some
theorem right_iff (ps : List PairD) : ∀ seen : List PairD, rightFrom seen ps = true ↔ ∀ (i : Nat) q, ps[i]? = some q → okPair q = true ∧ (∀ x ∈ seen, x.1 ≠ q.1) ∧ ∀ (j : Nat) p, j < i → ps[j]? = some p → p.1 ≠ q.1 := by
  induction ps with
  | nil => intro seen; exact ⟨(fun _ i q h => by cases h), fun _ => rfl⟩
  | cons a r ih =>
    intro seen
    unfold rightFrom
    rw [Bool.and_eq_true, Bool.and_eq_true, ih (seen ++ [a])]
    have hs : (!(seen.any fun x => x.1 == a.1)) = true ↔ ∀ x ∈ seen, x.1 ≠ a.1 := by
      rw [Bool.not_eq_true', List.any_eq_false]
      constructor
      · intro h x hx e; exact h x hx (by rw [e]; simp)
      · intro h x hx e; exact h x hx (by simpa using e)
    rw [hs]
    constructor
    · rintro ⟨h1, h2, h3⟩ i q hq
      cases i with
      | zero => cases hq; exact ⟨h1, h2, fun j p hj => by omega⟩
      | succ i =>
        obtain ⟨a1, a2, a3⟩ := h3 i q hq
        refine ⟨a1, fun x hx => a2 x (List.mem_append_left _ hx), fun j p hj hp => ?_⟩
        cases j with
        | zero => cases hp; exact a2 a (List.mem_append_right _ List.mem_cons_self)
        | succ j => exact a3 j p (by omega) hp
    · intro h
      obtain ⟨a1, a2, _⟩ := h 0 a rfl
      refine ⟨a1, a2, fun i q hq => ?_⟩
      obtain ⟨b1, b2, b3⟩ := h (i + 1) q hq
      refine ⟨b1, fun x hx => ?_, fun j p hj hp => b3 (j + 1) p (by omega) hp⟩
      rcases List.mem_append.1 hx with hx | hx
      · exact b2 x hx
      · rw [List.mem_singleton] at hx
        rw [hx]
        exact b3 0 a (by omega) rfl
/-- the pairs up to a place are right, and no key is met twice -/
def OkTo (ps : List PairD) (k : Nat) : Prop := ∀ (i : Nat) q, i < k → ps[i]? = some q → okPair q = true ∧ ∀ (j : Nat) p, j < i → ps[j]? = some p → p.1 ≠ q.1
theorem right_ok {ps : List PairD} (h : OkTo ps ps.length) (hl : ps.length ≤ 200) : rightP ps = true := by
  unfold rightP
  rw [decide_eq_true hl, Bool.true_and, right_iff]
  intro i q hq
  obtain ⟨h1, h2⟩ := h i q (List.getElem?_eq_some_iff.1 hq).1 hq
  exact ⟨h1, (fun x hx => by cases hx), h2⟩
theorem right_bad {ps : List PairD} {i : Nat} {q : PairD} (hq : ps[i]? = some q) (h : okPair q = false) : rightP ps = false := by
  cases hr : rightP ps with
  | false => rfl
  | true =>
    unfold rightP at hr
    rw [Bool.and_eq_true, right_iff] at hr
    rw [(hr.2 i q hq).1] at h
    cases h
theorem right_twice {ps : List PairD} {i j : Nat} {q p : PairD} (hq : ps[i]? = some q) (hp : ps[j]? = some p) (hj : j < i) (h : p.1 = q.1) : rightP ps = false := by
  cases hr : rightP ps with
  | false => rfl
  | true =>
    unfold rightP at hr
    rw [Bool.and_eq_true, right_iff] at hr
    exact absurd h ((hr.2 i q hq).2.2 j p hj hp)
theorem right_long {ps : List PairD} (h : 200 < ps.length) : rightP ps = false := by
  unfold rightP
  rw [decide_eq_false (by omega)]
  rfl
theorem okPair_eq (q : PairD) : okPair q = (decide (1 ≤ q.1.length) && (decide (q.1.length ≤ 64) && (decide (1 ≤ q.2.length) && decide (q.2.length ≤ 1000)))) := by
  have h : ∀ l : List UInt8, (!l.isEmpty) = decide (1 ≤ l.length) := fun l => by cases l <;> simp
  unfold okPair
  rw [h, h]
set_option maxRecDepth 100000 in
set_option maxHeartbeats 6400000 in
theorem rightRef_any (ps : List PairD) (v : Value) (w : World) (hv : Pairs w v ps) (hlen : ps.length ≤ 1099511627775) :
    Calls Tryd.prog 26 #[v] w fun e w' => e = .returned (.bool (rightP ps)) ∧ Below w.heap.size w w' := by
  obtain ⟨p, c, rfl⟩ := hv.form
  obtain ⟨n, hn⟩ : ∃ n, ps.length = n := ⟨_, rfl⟩
  have HN := Lib.hid hn
  have HV := Lib.hid hv
  rw [hn] at hlen HV ⊢
  obtain ⟨rp, hrp⟩ : ∃ b, rightP ps = b := ⟨_, rfl⟩
  have HR := Lib.hid hrp
  rw [hrp]
  clear hv hn hrp
  by_cases hl : 200 < n
  · have hf : rp = false := HR.out.symm.trans (right_long (by rw [HN.out]; exact hl))
    subst hf
    have g1 : (200 : Int) < n := by omega
    clear hl
    go_enter Tryd.func26, Tryd.ntmps26
    go_wp2
    go_ret
    exact ⟨rfl, Below.refl _ _⟩
  · have g1 : ¬ ((200 : Int) < n) := by omega
    have g1d : decide ((200 : Int) < n) = false := decide_eq_false g1
    go_enter Tryd.func26, Tryd.ntmps26
    go_wp2_with fail
    go_loopw [3] (fun i wr => ∃ k : Nat, k ≤ n ∧ i = .int .i64 k ∧ Aside (OkTo ps k) ∧ Aside (Below w.heap.size w wr)) (fun i _ => n - (RowKit.intOf i).toNat)
    case atStart => exact ⟨0, Nat.zero_le _, rfl, (fun i q h => by omega), Below.refl _ _⟩
    case round =>
      obtain ⟨k, hk, rfl, HOK, HB⟩ := hrel
      by_cases hlt : k < n
      · obtain ⟨x, hx⟩ : ∃ x, ps[k]? = some x := ⟨_, List.getElem?_eq_getElem (by rw [HN.out]; exact hlt)⟩
        obtain ⟨-, bk, ob, rfl, hbk, hcl⟩ := HV.out.at (by intro h; rw [h] at hx; cases hx)
        have HC := Lib.hid (fun W (hb : Below w.heap.size w W) j (y : PairD) (hy : ps[j]? = some y) => (show W.cell? ⟨bk, ob + j * 2, none⟩ = some (.string ⟨y.1.toArray⟩) ∧ W.cell? ⟨bk, ob + j * 2 + 1, none⟩ = some (.string ⟨y.2.toArray⟩) from ⟨(hb.cell (p := ⟨bk, ob + j * 2, none⟩) hbk).trans (hcl j y hy).1, (hb.cell (p := ⟨bk, ob + j * 2 + 1, none⟩) hbk).trans (hcl j y hy).2⟩))
        obtain ⟨c1, c2⟩ := HC.out _ HB.out k x hx
        have HX := Lib.hid hx
        have hok := okPair_eq x
        have hs1 : (⟨x.1.toArray⟩ : ByteArray).size = x.1.length := rfl
        have hs2 : (⟨x.2.toArray⟩ : ByteArray).size = x.2.length := rfl
        obtain ⟨kl, hkl⟩ : ∃ n, x.1.length = n := ⟨_, rfl⟩
        obtain ⟨vl, hvl⟩ : ∃ n, x.2.length = n := ⟨_, rfl⟩
        rw [hkl] at hs1 hok
        rw [hvl] at hs2 hok
        have HOKX := Lib.hid hok
        have g2 : (0 : Int) ≤ k := by omega
        have g3 : (k : Int) < n := by omega
        clear hx hcl hkl hvl hok
        have hcase : kl < 1 ∨ (¬ kl < 1 ∧ (64 < kl ∨ (¬ 64 < kl ∧ (vl < 1 ∨ (¬ vl < 1 ∧ (1000 < vl ∨ ¬ 1000 < vl)))))) := by omega
        rcases hcase with h1 | ⟨h1, h2 | ⟨h2, h3 | ⟨h3, h4 | h4⟩⟩⟩
        · have j1 : (kl : Int) < 1 := by omega
          have hf : rp = false := HR.out.symm.trans (right_bad HX.out (by rw [HOKX.out, decide_eq_false (show ¬ 1 ≤ kl by omega)]; simp))
          subst hf
          clear h1
          go_wp2
          go_ret
          exact ⟨rfl, HB.out⟩
        · have j1 : ¬ ((kl : Int) < 1) := by omega
          have j1d : decide ((kl : Int) < 1) = false := decide_eq_false j1
          have j2 : (64 : Int) < kl := by omega
          have hf : rp = false := HR.out.symm.trans (right_bad HX.out (by rw [HOKX.out, decide_eq_false (show ¬ kl ≤ 64 by omega)]; simp))
          subst hf
          clear h1 h2
          go_wp2
          go_ret
          exact ⟨rfl, HB.out⟩
        · have j1 : ¬ ((kl : Int) < 1) := by omega
          have j1d : decide ((kl : Int) < 1) = false := decide_eq_false j1
          have j2 : ¬ ((64 : Int) < kl) := by omega
          have j2d : decide ((64 : Int) < kl) = false := decide_eq_false j2
          have j3 : (vl : Int) < 1 := by omega
          have hf : rp = false := HR.out.symm.trans (right_bad HX.out (by rw [HOKX.out, decide_eq_false (show ¬ 1 ≤ vl by omega)]; simp))
          subst hf
          clear h1 h2 h3
          go_wp2
          go_ret
          exact ⟨rfl, HB.out⟩
        · have j1 : ¬ ((kl : Int) < 1) := by omega
          have j1d : decide ((kl : Int) < 1) = false := decide_eq_false j1
          have j2 : ¬ ((64 : Int) < kl) := by omega
          have j2d : decide ((64 : Int) < kl) = false := decide_eq_false j2
          have j3 : ¬ ((vl : Int) < 1) := by omega
          have j3d : decide ((vl : Int) < 1) = false := decide_eq_false j3
          have j4 : (1000 : Int) < vl := by omega
          have hf : rp = false := HR.out.symm.trans (right_bad HX.out (by rw [HOKX.out, decide_eq_false (show ¬ vl ≤ 1000 by omega)]; simp))
          subst hf
          clear h1 h2 h3 h4
          go_wp2
          go_ret
          exact ⟨rfl, HB.out⟩
        · have j1 : ¬ ((kl : Int) < 1) := by omega
          have j1d : decide ((kl : Int) < 1) = false := decide_eq_false j1
          have j2 : ¬ ((64 : Int) < kl) := by omega
          have j2d : decide ((64 : Int) < kl) = false := decide_eq_false j2
          have j3 : ¬ ((vl : Int) < 1) := by omega
          have j3d : decide ((vl : Int) < 1) = false := decide_eq_false j3
          have j4 : ¬ ((1000 : Int) < vl) := by omega
          have j4d : decide ((1000 : Int) < vl) = false := decide_eq_false j4
          have HKX := Lib.hid (show okPair x = true from by rw [HOKX.out, decide_eq_true (show 1 ≤ kl by omega), decide_eq_true (show kl ≤ 64 by omega), decide_eq_true (show 1 ≤ vl by omega), decide_eq_true (show vl ≤ 1000 by omega)]; rfl)
          clear h1 h2 h3 h4
          go_wp2_with fail
          clear c1 c2
          go_loopw [4] (fun j wi => ∃ m : Nat, m ≤ k ∧ j = .int .i64 m ∧ Aside (∀ (j : Nat) y, j < m → ps[j]? = some y → y.1 ≠ x.1) ∧ Aside (Below w.heap.size w wi)) (fun j _ => k - (RowKit.intOf j).toNat)
          case atStart => exact ⟨0, Nat.zero_le _, rfl, (fun j y h => by omega), HB.out⟩
          case round =>
            obtain ⟨m, hm, rfl, HNE, HBI⟩ := hrel
            by_cases hmk : m < k
            · obtain ⟨y, hy⟩ : ∃ y, ps[m]? = some y := ⟨_, List.getElem?_eq_getElem (by rw [HN.out]; omega)⟩
              have HY := Lib.hid hy
              have HSS := Lib.hid (fun W (hb : Below w.heap.size w W) => And.intro (HC.out W hb m y HY.out).1 (HC.out W hb k x HX.out).1)
              have i0 : (0 : Int) ≤ m := by omega
              have i1 : (m : Int) < k := by omega
              have i2 : (m : Int) < n := by omega
              have b0 : Below w.heap.size w _ := HBI.out.drew
              clear hy
              by_cases he : y.1 = x.1
              · have q1 : (y.1 == x.1) = true := by rw [he]; exact beq_self_eq_true _
                have hf : rp = false := HR.out.symm.trans (right_twice HX.out HY.out hmk he)
                subst hf
                clear he
                go_wp2_with fail
                refine wp_region_held_drew (S := (fun W => W.cell? ⟨bk, ob + m * 2, none⟩ = some (.string ⟨y.1.toArray⟩) ∧ W.cell? ⟨bk, ob + k * 2, none⟩ = some (.string ⟨x.1.toArray⟩))) (by kernel_rfl) (HSS.out _ b0) (fun hHeld => ?_)
                refine wpAnyH_take (i := 0) (v := ?_) rfl (by kernel_rfl) (by kernel_rfl) (by kernel_rfl) (fun _ _ _ h => h) (.inl ⟨by rfl, ?_⟩) (by assumption) ?_
                rotate_left 1
                · intro w0 hSw
                  go_simp <;> with_reducible rfl
                try simp only [Act.put, List.getElem_toArray, List.getElem_cons_zero, List.setIfInBounds_toArray, List.set_cons_zero, List.set_cons_succ]
                refine wpAnyH_take (i := 1) (v := ?_) rfl (by kernel_rfl) (by kernel_rfl) (by kernel_rfl) (fun _ _ _ h => h) (.inl ⟨by rfl, ?_⟩) (by assumption) ?_
                rotate_left 1
                · intro w0 hSw
                  go_simp <;> with_reducible rfl
                try simp only [Act.put, List.getElem_toArray, List.getElem_cons_zero, List.getElem_cons_succ, List.setIfInBounds_toArray, List.set_cons_zero, List.set_cons_succ]
                refine wpAnyH_take (i := 2) (v := ?_) rfl (by kernel_rfl) (by kernel_rfl) (by kernel_rfl) (fun _ _ _ h => h) (.inl ⟨by rfl, ?_⟩) (by assumption) ?_
                rotate_left 1
                · intro w0 hSw
                  go_simp <;> with_reducible rfl
                try simp only [Act.put, List.getElem_toArray, List.getElem_cons_zero, List.getElem_cons_succ, List.setIfInBounds_toArray, List.set_cons_zero, List.set_cons_succ]
                refine wpAnyH_take (i := 3) (v := ?_) rfl (by kernel_rfl) (by kernel_rfl) (by kernel_rfl) (fun _ _ _ h => h) (.inl ⟨by rfl, ?_⟩) (by assumption) ?_
                rotate_left 1
                · intro w0 hSw
                  go_simp <;> with_reducible rfl
                try simp only [Act.put, List.getElem_toArray, List.getElem_cons_zero, List.getElem_cons_succ, List.setIfInBounds_toArray, List.set_cons_zero, List.set_cons_succ]
                refine wpAnyH_take (i := 4) (v := ?_) rfl (by kernel_rfl) (by kernel_rfl) (by kernel_rfl) (fun _ _ _ h => h) (.inl ⟨by rfl, ?_⟩) (by assumption) ?_
                rotate_left 1
                · intro w0 hSw
                  obtain ⟨z0, z1⟩ := hSw
                  go_simp <;> with_reducible rfl
                try simp only [Act.put, List.getElem_toArray, List.getElem_cons_zero, List.getElem_cons_succ, List.setIfInBounds_toArray, List.set_cons_zero, List.set_cons_succ]
                refine wpAnyH_take (i := 5) (v := ?_) rfl (by kernel_rfl) (by kernel_rfl) (by kernel_rfl) (fun _ _ _ h => h) (.inl ⟨by rfl, ?_⟩) (by assumption) ?_
                rotate_left 1
                · intro w0 hSw
                  go_simp <;> with_reducible rfl
                try simp only [Act.put, List.getElem_toArray, List.getElem_cons_zero, List.getElem_cons_succ, List.setIfInBounds_toArray, List.set_cons_zero, List.set_cons_succ]
                refine wpAnyH_take (i := 6) (v := ?_) rfl (by kernel_rfl) (by kernel_rfl) (by kernel_rfl) (fun _ _ _ h => h) (.inl ⟨by rfl, ?_⟩) (by assumption) ?_
                rotate_left 1
                · intro w0 hSw
                  go_simp <;> with_reducible rfl
                try simp only [Act.put, List.getElem_toArray, List.getElem_cons_zero, List.getElem_cons_succ, List.setIfInBounds_toArray, List.set_cons_zero, List.set_cons_succ]
                refine wpAnyH_take (i := 7) (v := ?_) rfl (by kernel_rfl) (by kernel_rfl) (by kernel_rfl) (fun _ _ _ h => h) (.inl ⟨by rfl, ?_⟩) (by assumption) ?_
                rotate_left 1
                · intro w0 hSw
                  go_simp <;> with_reducible rfl
                try simp only [Act.put, List.getElem_toArray, List.getElem_cons_zero, List.getElem_cons_succ, List.setIfInBounds_toArray, List.set_cons_zero, List.set_cons_succ]
                refine wpAnyH_take (i := 8) (v := ?_) rfl (by kernel_rfl) (by kernel_rfl) (by kernel_rfl) (fun _ _ _ h => h) (.inl ⟨by rfl, ?_⟩) (by assumption) ?_
                rotate_left 1
                · intro w0 hSw
                  go_simp <;> with_reducible rfl
                try simp only [Act.put, List.getElem_toArray, List.getElem_cons_zero, List.getElem_cons_succ, List.setIfInBounds_toArray, List.set_cons_zero, List.set_cons_succ]
                refine wpAnyH_take (i := 9) (v := ?_) rfl (by kernel_rfl) (by kernel_rfl) (by kernel_rfl) (fun _ _ _ h => h) (.inl ⟨by rfl, ?_⟩) (by assumption) ?_
                rotate_left 1
                · intro w0 hSw
                  obtain ⟨z0, z1⟩ := hSw
                  go_simp <;> with_reducible rfl
                try simp only [Act.put, List.getElem_toArray, List.getElem_cons_zero, List.getElem_cons_succ, List.setIfInBounds_toArray, List.set_cons_zero, List.set_cons_succ]
                refine wpAnyH_take (i := 10) (v := ?_) rfl (by kernel_rfl) (by kernel_rfl) (by kernel_rfl) (fun _ _ _ h => h) (.inl ⟨by rfl, ?_⟩) (by assumption) ?_
                rotate_left 1
                · intro w0 hSw
                  go_simp <;> with_reducible rfl
                try simp only [Act.put, List.getElem_toArray, List.getElem_cons_zero, List.getElem_cons_succ, List.setIfInBounds_toArray, List.set_cons_zero, List.set_cons_succ]
                refine wpAnyH_done (by kernel_rfl) ?_ 0
                go_wp2
                go_ret
                exact ⟨rfl, b0⟩
              · have q1 : (y.1 == x.1) = false := beq_eq_false_iff_ne.2 he
                have HE := Lib.hid he
                clear he
                go_wp2_with fail
                refine wp_region_held_drew (S := (fun W => W.cell? ⟨bk, ob + m * 2, none⟩ = some (.string ⟨y.1.toArray⟩) ∧ W.cell? ⟨bk, ob + k * 2, none⟩ = some (.string ⟨x.1.toArray⟩))) (by kernel_rfl) (HSS.out _ b0) (fun hHeld => ?_)
                refine wpAnyH_take (i := 0) (v := ?_) rfl (by kernel_rfl) (by kernel_rfl) (by kernel_rfl) (fun _ _ _ h => h) (.inl ⟨by rfl, ?_⟩) (by assumption) ?_
                rotate_left 1
                · intro w0 hSw
                  go_simp <;> with_reducible rfl
                try simp only [Act.put, List.getElem_toArray, List.getElem_cons_zero, List.setIfInBounds_toArray, List.set_cons_zero, List.set_cons_succ]
                refine wpAnyH_take (i := 1) (v := ?_) rfl (by kernel_rfl) (by kernel_rfl) (by kernel_rfl) (fun _ _ _ h => h) (.inl ⟨by rfl, ?_⟩) (by assumption) ?_
                rotate_left 1
                · intro w0 hSw
                  go_simp <;> with_reducible rfl
                try simp only [Act.put, List.getElem_toArray, List.getElem_cons_zero, List.getElem_cons_succ, List.setIfInBounds_toArray, List.set_cons_zero, List.set_cons_succ]
                refine wpAnyH_take (i := 2) (v := ?_) rfl (by kernel_rfl) (by kernel_rfl) (by kernel_rfl) (fun _ _ _ h => h) (.inl ⟨by rfl, ?_⟩) (by assumption) ?_
                rotate_left 1
                · intro w0 hSw
                  go_simp <;> with_reducible rfl
                try simp only [Act.put, List.getElem_toArray, List.getElem_cons_zero, List.getElem_cons_succ, List.setIfInBounds_toArray, List.set_cons_zero, List.set_cons_succ]
                refine wpAnyH_take (i := 3) (v := ?_) rfl (by kernel_rfl) (by kernel_rfl) (by kernel_rfl) (fun _ _ _ h => h) (.inl ⟨by rfl, ?_⟩) (by assumption) ?_
                rotate_left 1
                · intro w0 hSw
                  go_simp <;> with_reducible rfl
                try simp only [Act.put, List.getElem_toArray, List.getElem_cons_zero, List.getElem_cons_succ, List.setIfInBounds_toArray, List.set_cons_zero, List.set_cons_succ]
                refine wpAnyH_take (i := 4) (v := ?_) rfl (by kernel_rfl) (by kernel_rfl) (by kernel_rfl) (fun _ _ _ h => h) (.inl ⟨by rfl, ?_⟩) (by assumption) ?_
                rotate_left 1
                · intro w0 hSw
                  obtain ⟨z0, z1⟩ := hSw
                  go_simp <;> with_reducible rfl
                try simp only [Act.put, List.getElem_toArray, List.getElem_cons_zero, List.getElem_cons_succ, List.setIfInBounds_toArray, List.set_cons_zero, List.set_cons_succ]
                refine wpAnyH_take (i := 5) (v := ?_) rfl (by kernel_rfl) (by kernel_rfl) (by kernel_rfl) (fun _ _ _ h => h) (.inl ⟨by rfl, ?_⟩) (by assumption) ?_
                rotate_left 1
                · intro w0 hSw
                  go_simp <;> with_reducible rfl
                try simp only [Act.put, List.getElem_toArray, List.getElem_cons_zero, List.getElem_cons_succ, List.setIfInBounds_toArray, List.set_cons_zero, List.set_cons_succ]
                refine wpAnyH_take (i := 6) (v := ?_) rfl (by kernel_rfl) (by kernel_rfl) (by kernel_rfl) (fun _ _ _ h => h) (.inl ⟨by rfl, ?_⟩) (by assumption) ?_
                rotate_left 1
                · intro w0 hSw
                  go_simp <;> with_reducible rfl
                try simp only [Act.put, List.getElem_toArray, List.getElem_cons_zero, List.getElem_cons_succ, List.setIfInBounds_toArray, List.set_cons_zero, List.set_cons_succ]
                refine wpAnyH_take (i := 7) (v := ?_) rfl (by kernel_rfl) (by kernel_rfl) (by kernel_rfl) (fun _ _ _ h => h) (.inl ⟨by rfl, ?_⟩) (by assumption) ?_
                rotate_left 1
                · intro w0 hSw
                  go_simp <;> with_reducible rfl
                try simp only [Act.put, List.getElem_toArray, List.getElem_cons_zero, List.getElem_cons_succ, List.setIfInBounds_toArray, List.set_cons_zero, List.set_cons_succ]
                refine wpAnyH_take (i := 8) (v := ?_) rfl (by kernel_rfl) (by kernel_rfl) (by kernel_rfl) (fun _ _ _ h => h) (.inl ⟨by rfl, ?_⟩) (by assumption) ?_
                rotate_left 1
                · intro w0 hSw
                  go_simp <;> with_reducible rfl
                try simp only [Act.put, List.getElem_toArray, List.getElem_cons_zero, List.getElem_cons_succ, List.setIfInBounds_toArray, List.set_cons_zero, List.set_cons_succ]
                refine wpAnyH_take (i := 9) (v := ?_) rfl (by kernel_rfl) (by kernel_rfl) (by kernel_rfl) (fun _ _ _ h => h) (.inl ⟨by rfl, ?_⟩) (by assumption) ?_
                rotate_left 1
                · intro w0 hSw
                  obtain ⟨z0, z1⟩ := hSw
                  go_simp <;> with_reducible rfl
                try simp only [Act.put, List.getElem_toArray, List.getElem_cons_zero, List.getElem_cons_succ, List.setIfInBounds_toArray, List.set_cons_zero, List.set_cons_succ]
                refine wpAnyH_take (i := 10) (v := ?_) rfl (by kernel_rfl) (by kernel_rfl) (by kernel_rfl) (fun _ _ _ h => h) (.inl ⟨by rfl, ?_⟩) (by assumption) ?_
                rotate_left 1
                · intro w0 hSw
                  go_simp <;> with_reducible rfl
                try simp only [Act.put, List.getElem_toArray, List.getElem_cons_zero, List.getElem_cons_succ, List.setIfInBounds_toArray, List.set_cons_zero, List.set_cons_succ]
                refine wpAnyH_done (by kernel_rfl) ?_ 0
                go_wp2
                go_roundw
                case rel => exact ⟨m + 1, by omega, by go_num, (fun j z hj hz => by
                  rcases Nat.lt_or_ge j m with h | h
                  · exact HNE.out j z h hz
                  · obtain rfl : j = m := by omega
                    rw [HY.out] at hz
                    cases hz
                    exact HE.out), b0⟩
                case measure => simp [RowKit.intOf]; omega
            · obtain rfl : m = k := by omega
              go_wp2
              go_roundw
              case rel => exact ⟨m + 1, by omega, by go_num, (fun i q hi hq => by
                rcases Nat.lt_or_ge i m with h | h
                · exact HOK.out i q h hq
                · obtain rfl : i = m := by omega
                  rw [HX.out] at hq
                  cases hq
                  exact ⟨HKX.out, fun j p hj hp => HNE.out j p hj hp⟩), HBI.out⟩
              case measure => simp [RowKit.intOf]; omega
      · obtain rfl : k = n := by omega
        have hf : rp = true := HR.out.symm.trans (right_ok (by rw [HN.out]; exact HOK.out) (by rw [HN.out]; omega))
        subst hf
        go_wp2
        go_ret
        exact ⟨rfl, HB.out⟩
/-- pairs' root; else: an error -/
def rootR (ps : List PairD) : List UInt8 × Int := if rightP ps then (rootP keccakL ps, 0) else ([], 60)
def proveR (ps : List PairD) (key : List UInt8) : List (List UInt8) × Int := if rightP ps then (match ps with | [] => [] | _ => wayP keccakL 129 ps 0 (halves key), 0) else ([], 60)
theorem right_len {ps : List PairD} (h : rightP ps = true) : ps.length ≤ 200 := by
  unfold rightP at h
  rw [Bool.and_eq_true, decide_eq_true_eq] at h
  exact h.1
/-- what a call gives that tells texts, and an error -/
def TextsR (w : World) (l : List (List UInt8)) (er : Int) (e : Ending) (w' : World) : Prop := ∃ p c, e = .returned (.tuple #[.slice p l.length c, .int .i64 er]) ∧ OwnS w.heap.size w' (.slice p l.length c) (l.map bt) ∧ Below w.heap.size w w'
end Go.Proofs.YthicdhnjincflaaDoor

namespace Go.Proofs.YthicdhnjincflaaDoor
open Go.RowKit Go.Shelf Go.Lib
attribute [local go_sem] Oper.semAt_some
/-- pairs' nodes; else: an error -/
def nodesR (ps : List PairD) : List (List UInt8) × Int := if rightP ps then (match ps with | [] => [] | _ => nodesP keccakL 129 ps 0, 0) else ([], 60)
end Go.Proofs.YthicdhnjincflaaDoor
