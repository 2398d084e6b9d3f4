/- What the walks take: TriS, SrtP, SrtQ, TrwP, NdsP. -/
import Derived.Test.YthicdhnjincflaaGreatDoorU0
import Derived.Test.YthicdhnjincflaaGreatDoorU3
import Derived.Lib.IndexMore
namespace Go.Proofs.YthicdhnjincflaaGreatDoor
open Go.RowKit
theorem hiN_le (b : UInt8) : (hiN b).toNat ≤ 15 := by
  have h := u8_hi b
  have := b.toNat_lt
  omega
theorem loN_eq (b : UInt8) : (loN b).toNat = b.toNat % 16 := by
  have h := u8_lo b
  have hlt := b.toNat_lt
  have h2 := Go.u8_and15 (x := (b.toNat : Int)) (by omega) (by omega)
  have h3 := h.symm.trans h2
  omega
theorem hiN_eq (b : UInt8) : (hiN b).toNat = b.toNat / 16 := by
  have h := u8_hi b
  omega
theorem joinN_eq (a b : UInt8) (ha : a.toNat ≤ 15) (hb : b.toNat ≤ 15) : (joinN a b).toNat = a.toNat * 16 + b.toNat := by
  unfold joinN
  rw [UInt8.toNat_or, UInt8.toNat_shiftLeft]
  have : (4 : UInt8).toNat % 8 = 4 := rfl
  rw [this, Nat.mod_eq_of_lt (by rw [Nat.shiftLeft_eq]; omega)]
  rw [← Nat.shiftLeft_add_eq_or_of_lt (by omega : b.toNat < 2 ^ 4), Nat.shiftLeft_eq]
theorem join_halves (b : UInt8) : joinN (hiN b) (loN b) = b := by
  apply UInt8.toNat_inj.1
  rw [joinN_eq _ _ (hiN_le b) (by rw [loN_eq]; omega), hiN_eq, loN_eq]
  omega
theorem hi_join (a b : UInt8) (ha : a.toNat ≤ 15) (hb : b.toNat ≤ 15) : hiN (joinN a b) = a := by
  apply UInt8.toNat_inj.1
  rw [hiN_eq, joinN_eq a b ha hb]; omega
theorem lo_join (a b : UInt8) (ha : a.toNat ≤ 15) (hb : b.toNat ≤ 15) : loN (joinN a b) = b := by
  apply UInt8.toNat_inj.1
  rw [loN_eq, joinN_eq a b ha hb]; omega
theorem isPath_cons (a : UInt8) (l : List UInt8) : isPath (a :: l) = (decide (a.toNat ≤ 15) && isPath l) := by simp [isPath]
theorem halves_cons (b : UInt8) (l : List UInt8) : halves (b :: l) = hiN b :: loN b :: halves l := by
  show halves ([b] ++ l) = _
  rw [halves_append, halves_one]; rfl
theorem isPath_halves (l : List UInt8) : isPath (halves l) = true := by
  induction l with
  | nil => rfl
  | cons b l ih =>
    rw [halves_cons, isPath_cons, isPath_cons, ih]
    have h1 := hiN_le b
    have h2 : (loN b).toNat ≤ 15 := by rw [loN_eq]; omega
    simp [h1, h2]
theorem pairUp_halves (l : List UInt8) : pairUp (halves l) = l := by
  induction l with
  | nil => rfl
  | cons b l ih => rw [halves_cons, pairUp, ih, join_halves]
theorem halves_pairUp (L : List UInt8) (h : L.length % 2 = 0) (hp : isPath L = true) : halves (pairUp L) = L := by
  induction L using pairUp.induct with
  | case1 a b r ih =>
    rw [isPath_cons, isPath_cons] at hp
    simp only [Bool.and_eq_true, decide_eq_true_eq] at hp
    rw [pairUp, halves_cons, hi_join a b hp.1 hp.2.1, lo_join a b hp.1 hp.2.1, ih (by simp at h; omega) hp.2.2]
  | case2 l hl =>
    match l, hl with
    | [], _ => rfl
    | [a], _ => simp at h
    | a :: b :: r, hl => exact (hl a b r rfl).elim
theorem read_form_any (p : List UInt8) (leaf : Bool) (h : isPath p = true) : read (form p leaf).1 = (p, leaf, 0) := by
  unfold form
  rw [if_pos h]
  show read (pairUp (formHalves p leaf)) = _
  unfold formHalves
  by_cases ho : p.length % 2 = 1
  · rw [if_pos ho]
    have hp : isPath ((if leaf then 3 else 1) :: p) = true := by rw [isPath_cons, h]; cases leaf <;> rfl
    have hh := halves_pairUp _ (by simp only [List.length_cons]; omega) hp
    unfold read
    rw [hh]
    cases p with
    | nil => simp at ho
    | cons a r => cases leaf <;> rfl
  · rw [if_neg ho]
    have hp : isPath ((if leaf then 2 else 0) :: 0 :: p) = true := by rw [isPath_cons, isPath_cons, h]; cases leaf <;> rfl
    have hh := halves_pairUp _ (by simp only [List.length_cons]; omega) hp
    unfold read
    rw [hh]
    cases leaf <;> rfl
theorem form_length (p : List UInt8) (leaf : Bool) : (form p leaf).1.length ≤ p.length / 2 + 1 := by
  unfold form
  split
  · show (pairUp (formHalves p leaf)).length ≤ _
    rw [pairUp_length]
    unfold formHalves
    split <;> simp only [List.length_cons] <;> omega
  · simp
theorem isPath_append (a b : List UInt8) : isPath (a ++ b) = (isPath a && isPath b) := by simp [isPath]
theorem isPath_drop {l : List UInt8} (h : isPath l = true) (n : Nat) : isPath (l.drop n) = true := by
  have h2 := isPath_append (l.take n) (l.drop n)
  rw [List.take_append_drop, h] at h2
  exact (Bool.and_eq_true_iff.1 h2.symm).2
theorem isPath_take {l : List UInt8} (h : isPath l = true) (n : Nat) : isPath (l.take n) = true := by
  have h2 := isPath_append (l.take n) (l.drop n)
  rw [List.take_append_drop, h] at h2
  exact (Bool.and_eq_true_iff.1 h2.symm).1
theorem halves_inj {a b : List UInt8} (h : halves a = halves b) : a = b := by rw [← pairUp_halves a, h, pairUp_halves]
theorem isPath_at {l : List UInt8} (h : isPath l = true) {i : Nat} {x : UInt8} (hx : l[i]? = some x) : x.toNat ≤ 15 := by
  unfold isPath at h
  rw [List.all_eq_true] at h
  simpa using h x (List.mem_of_getElem? hx)
end Go.Proofs.YthicdhnjincflaaGreatDoor
/- Plain tries: which pairs are right, the node of pairs at a depth, its bytes, what is told of a way and of all nodes; what nodes prove. K: the digest of bytes. -/
namespace Go.Proofs.YthicdhnjincflaaGreatDoor
open Go.RowKit
abbrev PairD := List UInt8 × List UInt8
def pth (q : PairD) : List UInt8 := halves q.1
def okPair (q : PairD) : Bool := !q.1.isEmpty && (decide (q.1.length ≤ 64) && (!q.2.isEmpty && decide (q.2.length ≤ 1000)))
def rightFrom : List PairD → List PairD → Bool
  | _, [] => true
  | seen, q :: r => okPair q && (!(seen.any fun x => x.1 == q.1) && rightFrom (seen ++ [q]) r)
def rightP (ps : List PairD) : Bool := decide (ps.length ≤ 200) && rightFrom [] ps
def alikeP (ps : List PairD) (d : Nat) : Nat := match ps with
  | [] => 0
  | q :: r => r.foldl (fun n x => min n (common ((pth q).drop d) ((pth x).drop d))) ((pth q).drop d).length
def havingP (ps : List PairD) (d : Nat) (h : UInt8) : List PairD := ps.filter fun q => (pth q)[d]? == some h
def endingP : List PairD → Nat → List UInt8
  | [], _ => []
  | q :: r, d => if 2 * q.1.length = d then q.2 else endingP r d
def txtI (t : List UInt8) : Item := .mk false t []
def lstI (l : List Item) : Item := .mk true [] l
def formI (p : List UInt8) (leaf : Bool) : Item := txtI (form p leaf).1
def leafI (p v : List UInt8) : Item := lstI [formI p true, txtI v]
def extI (p : List UInt8) (x : Item) : Item := lstI [formI p false, x]
def brI (cs : List Item) (v : List UInt8) : Item := lstI (cs ++ [txtI v])
section
variable (K : List UInt8 → List UInt8)
def refI (x : Item) : Item := if (encode x).1.length < 32 then x else txtI (K (encode x).1)
def nodeP : Nat → List PairD → Nat → Item
  | 0, _, _ => .none
  | f + 1, ps, d => match ps with
    | [] => .none
    | [q] => leafI ((pth q).drop d) q.2
    | q :: q2 :: r => if 0 < alikeP (q :: q2 :: r) d then extI (((pth q).drop d).take (alikeP (q :: q2 :: r) d)) (refI K (nodeP f (q :: q2 :: r) (d + alikeP (q :: q2 :: r) d)))
      else brI ((List.range 16).map fun h => match havingP (q :: q2 :: r) d (UInt8.ofNat h) with
        | [] => .none
        | x :: m => refI K (nodeP f (x :: m) (d + 1))) (endingP (q :: q2 :: r) d)
def bytesP (f : Nat) (ps : List PairD) (d : Nat) : List UInt8 := (encode (nodeP K f ps d)).1
def rootP (ps : List PairD) : List UInt8 := match ps with
  | [] => K [128]
  | _ => K (bytesP K 129 ps 0)
def toldP (f : Nat) (ps : List PairD) (d : Nat) : List (List UInt8) := if d = 0 ∨ 32 ≤ (bytesP K f ps d).length then [bytesP K f ps d] else []
def wayP : Nat → List PairD → Nat → List UInt8 → List (List UInt8)
  | 0, _, _, _ => []
  | f + 1, ps, d, path => toldP K (f + 1) ps d ++ match ps with
    | [] => []
    | [_] => []
    | q :: q2 :: r => if 0 < alikeP (q :: q2 :: r) d then
        (if path.length < d + alikeP (q :: q2 :: r) d ∨ (path.drop d).take (alikeP (q :: q2 :: r) d) ≠ ((pth q).drop d).take (alikeP (q :: q2 :: r) d) then [] else wayP f (q :: q2 :: r) (d + alikeP (q :: q2 :: r) d) path)
      else match path[d]? with
        | none => []
        | some h => match havingP (q :: q2 :: r) d h with
          | [] => []
          | x :: m => wayP f (x :: m) (d + 1) path
def nodesP : Nat → List PairD → Nat → List (List UInt8)
  | 0, _, _ => []
  | f + 1, ps, d => toldP K (f + 1) ps d ++ match ps with
    | [] => []
    | [_] => []
    | q :: q2 :: r => if 0 < alikeP (q :: q2 :: r) d then nodesP f (q :: q2 :: r) (d + alikeP (q :: q2 :: r) d)
      else (List.range 16).flatMap fun h => match havingP (q :: q2 :: r) d (UInt8.ofNat h) with
        | [] => []
        | x :: m => nodesP f (x :: m) (d + 1)
end
def Valid (ps : List PairD) (d : Nat) : Prop := ps ≠ [] ∧ ∀ q ∈ ps, d ≤ (pth q).length ∧ (pth q).length ≤ 128
theorem alike_fold (p : List UInt8) (d : Nat) : ∀ (r : List PairD) (n : Nat), r.foldl (fun n x => min n (common p ((pth x).drop d))) n ≤ n ∧ ∀ x ∈ r, r.foldl (fun n x => min n (common p ((pth x).drop d))) n ≤ common p ((pth x).drop d)
  | [], n => ⟨Nat.le_refl _, fun x h => by cases h⟩
  | y :: r, n => by
    obtain ⟨h1, h2⟩ := alike_fold p d r (min n (common p ((pth y).drop d)))
    simp only [List.foldl_cons]
    refine ⟨by omega, fun x hx => ?_⟩
    rcases List.mem_cons.1 hx with rfl | hx
    · omega
    · exact h2 x hx
theorem alike_ge (p : List UInt8) (d k : Nat) : ∀ (r : List PairD) (n : Nat), k ≤ n → (∀ x ∈ r, k ≤ common p ((pth x).drop d)) → k ≤ r.foldl (fun n x => min n (common p ((pth x).drop d))) n
  | [], n, h, _ => h
  | y :: r, n, h, h2 => by
    simp only [List.foldl_cons]
    exact alike_ge p d k r _ (by have := h2 y List.mem_cons_self; omega) (fun x hx => h2 x (List.mem_cons_of_mem _ hx))
theorem common_self (l : List UInt8) : common l l = l.length := by
  induction l with
  | nil => rfl
  | cons a l ih => simp [common, ih]
theorem alike_mem {q : PairD} {r : List PairD} {d : Nat} {x : PairD} (hx : x ∈ q :: r) : alikeP (q :: r) d ≤ common ((pth q).drop d) ((pth x).drop d) := by
  obtain ⟨h1, h2⟩ := alike_fold ((pth q).drop d) d r ((pth q).drop d).length
  rcases List.mem_cons.1 hx with rfl | hx
  · rw [common_self]; exact h1
  · exact h2 x hx
theorem alike_len {ps : List PairD} {d : Nat} {x : PairD} (hx : x ∈ ps) : alikeP ps d ≤ (pth x).length - d := by
  cases ps with
  | nil => cases hx
  | cons q r =>
    have h1 := alike_mem (d := d) hx
    have h2 := (common_le ((pth q).drop d) ((pth x).drop d)).2
    rw [List.length_drop] at h2
    omega
theorem alike_max {q : PairD} {r : List PairD} {d k : Nat} (h : ∀ x ∈ q :: r, k ≤ common ((pth q).drop d) ((pth x).drop d)) : k ≤ alikeP (q :: r) d := by
  refine alike_ge _ _ _ _ _ ?_ (fun x hx => h x (List.mem_cons_of_mem _ hx))
  have := h q List.mem_cons_self
  rwa [common_self] at this
theorem valid_ext {ps : List PairD} {d : Nat} (h : Valid ps d) : Valid ps (d + alikeP ps d) :=
  ⟨h.1, fun q hq => by
    have h1 := h.2 q hq
    have h2 := alike_len (d := d) hq
    omega⟩
theorem mem_having {ps : List PairD} {d : Nat} {h : UInt8} {q : PairD} : q ∈ havingP ps d h ↔ q ∈ ps ∧ (pth q)[d]? = some h := by
  unfold havingP
  rw [List.mem_filter, beq_iff_eq]
theorem valid_having {ps : List PairD} {d : Nat} {h : UInt8} {x : PairD} {m : List PairD} (hv : Valid ps d) (he : havingP ps d h = x :: m) : Valid (x :: m) (d + 1) :=
  ⟨by simp, fun q hq => by
    rw [← he] at hq
    obtain ⟨h1, h2⟩ := mem_having.1 hq
    have h3 := (List.getElem?_eq_some_iff.1 h2).1
    exact ⟨h3, (hv.2 q h1).2⟩⟩
theorem valid_le {ps : List PairD} {d : Nat} (h : Valid ps d) : d ≤ 128 := by
  obtain ⟨h1, h2⟩ := h
  cases ps with
  | nil => exact absurd rfl h1
  | cons q r => have := h2 q List.mem_cons_self; omega
theorem common_drop (l r : List UInt8) (k : Nat) (h : k ≤ common l r) : common (l.drop k) (r.drop k) = common l r - k := by
  induction k generalizing l r with
  | zero => simp
  | succ k ih =>
    cases l with
    | nil => simp [common] at h
    | cons a l =>
      cases r with
      | nil => simp [common] at h
      | cons b r =>
        have hc : common (a :: l) (b :: r) = if a = b then common l r + 1 else 0 := rfl
        rw [List.drop_succ_cons, List.drop_succ_cons]
        rw [hc] at h ⊢
        by_cases e : a = b
        · rw [if_pos e] at h ⊢
          rw [ih l r (by omega)]
          omega
        · rw [if_neg e] at h; omega
theorem alike_zero (ps : List PairD) (d : Nat) : alikeP ps (d + alikeP ps d) = 0 := by
  cases ps with
  | nil => rfl
  | cons q r =>
    obtain ⟨n, hn⟩ : ∃ n, alikeP (q :: r) d = n := ⟨_, rfl⟩
    obtain ⟨m, hm⟩ : ∃ m, alikeP (q :: r) (d + n) = m := ⟨_, rfl⟩
    rw [hn, hm]
    have h1 : n + m ≤ alikeP (q :: r) d := alike_max fun x hx => by
      have h2 := alike_mem (d := d) hx
      have h3 := alike_mem (d := d + n) hx
      rw [hn] at h2
      rw [hm, ← List.drop_drop, ← List.drop_drop, common_drop _ _ _ h2] at h3
      omega
    omega
end Go.Proofs.YthicdhnjincflaaGreatDoor
/- Plain: each node of pairs can be written as bytes, which are read as the node; it is one by the rules of a proof. -/
namespace Go.Proofs.YthicdhnjincflaaGreatDoor
open Go.RowKit
/-! is an item a node? -/
def emptyI (y : Item) : Bool := !y.isList && y.text.isEmpty
mutual
def isNodeP : Item → Bool
  | .mk b _ l => b && (if l.length = 17 then ((List.range 16).all fun i => emptyI (l.getD i .none) || (if (l.getD i .none).isList then (nodeFlags l).getD i false else decide ((l.getD i .none).text.length = 32))) && !(l.getD 16 .none).isList
      else decide (l.length = 2) && (!(l.getD 0 .none).isList && (decide ((read (l.getD 0 .none).text).2.2 = 0) && (if (read (l.getD 0 .none).text).2.1 then !(l.getD 1 .none).isList && !(l.getD 1 .none).text.isEmpty
        else !(read (l.getD 0 .none).text).1.isEmpty && (if (l.getD 1 .none).isList then (nodeFlags l).getD 1 false else decide ((l.getD 1 .none).text.length = 32))))))
def nodeFlags : List Item → List Bool
  | [] => []
  | x :: r => isNodeP x :: nodeFlags r
end
theorem nodeFlags_map (l : List Item) : nodeFlags l = l.map isNodeP := by
  induction l with
  | nil => rfl
  | cons x r ih => rw [nodeFlags, ih]; rfl
theorem nodeFlags_at (l : List Item) (i : Nat) : (nodeFlags l).getD i false = isNodeP (l.getD i .none) := by
  rw [nodeFlags_map, List.getD_eq_getElem?_getD, List.getD_eq_getElem?_getD, List.getElem?_map]
  cases l[i]? with
  | none => rfl
  | some x => rfl
def isRefP (y : Item) : Bool := if y.isList then isNodeP y else decide (y.text.length = 32)
def brOk (l : List Item) : Bool := ((List.range 16).all fun i => emptyI (l.getD i .none) || isRefP (l.getD i .none)) && !(l.getD 16 .none).isList
def twoOk (l : List Item) : Bool := !(l.getD 0 .none).isList && (decide ((read (l.getD 0 .none).text).2.2 = 0) && (if (read (l.getD 0 .none).text).2.1 then !(l.getD 1 .none).isList && !(l.getD 1 .none).text.isEmpty
        else !(read (l.getD 0 .none).text).1.isEmpty && isRefP (l.getD 1 .none)))
theorem isNodeP_eq (x : Item) : isNodeP x = (x.isList && (if x.list.length = 17 then brOk x.list else decide (x.list.length = 2) && twoOk x.list)) := by
  cases x with
  | mk b t l =>
    unfold isNodeP brOk twoOk isRefP
    simp only [nodeFlags_at]
    rfl
theorem isRefP_iff (y : Item) : isRefP y = ((!y.isList && decide (y.text.length = 32)) || isNodeP y) := by
  unfold isRefP
  rw [isNodeP_eq]
  cases y.isList <;> simp
/-! lengths -/
theorem tp_framed (s : List UInt8) (b : Nat) : s.length + 1 ≤ (framed s b).length ∧ (framed s b).length ≤ s.length + 9 := by
  unfold framed
  split
  · simp
  · have := num_length s.length
    simp only [List.length_cons, List.length_append]
    omega
theorem tp_text (t : List UInt8) : 1 ≤ (put (txtI t)).length ∧ (put (txtI t)).length ≤ t.length + 9 := by
  show 1 ≤ (putText t).length ∧ (putText t).length ≤ _
  unfold putText
  split
  · omega
  · have := tp_framed t 128
    omega
theorem tp_lst (l : List Item) : (putAll l).length + 1 ≤ (put (lstI l)).length ∧ (put (lstI l)).length ≤ (putAll l).length + 9 := tp_framed _ _
theorem tp_pos (x : Item) : 1 ≤ (put x).length := by
  cases x with
  | mk b t l =>
    cases b with
    | true => have := (tp_lst l).1; show 1 ≤ (framed (putAll l) 192).length; have := tp_framed (putAll l) 192; omega
    | false => exact (tp_text t).1
theorem tp_mem {l : List Item} {c : Item} (h : c ∈ l) : (put c).length + l.length ≤ (putAll l).length + 1 := by
  induction l with
  | nil => cases h
  | cons a r ih =>
    rw [putAll, List.length_append, List.length_cons]
    have ha := tp_pos a
    rcases List.mem_cons.1 h with rfl | h
    · have : r.length ≤ (putAll r).length := by
        clear ih h
        induction r with
        | nil => simp
        | cons b r ih => have := tp_pos b; rw [putAll, List.length_append, List.length_cons]; omega
      omega
    · have := ih h
      omega
theorem tp_le {l : List Item} {B : Nat} (h : ∀ c ∈ l, (put c).length ≤ B) : (putAll l).length ≤ B * l.length := by
  induction l with
  | nil => simp [putAll]
  | cons a r ih =>
    have h1 := h a List.mem_cons_self
    have h2 := ih (fun c hc => h c (List.mem_cons_of_mem _ hc))
    rw [putAll, List.length_append, List.length_cons, Nat.mul_succ]
    omega
theorem deep_lst (l : List Item) (m : Nat) : deep (lstI l) (m + 1) = l.any fun y => deep y m := by
  rw [deep_eq, if_neg (by omega)]
  rfl
theorem deep_less {x : Item} {m n : Nat} (h : deep x m = false) (hn : m ≤ n) : deep x n = false := by
  induction n with
  | zero => obtain rfl : m = 0 := by omega
            exact h
  | succ n ih =>
    rcases Nat.lt_or_ge n m with h1 | h1
    · obtain rfl : m = n + 1 := by omega
      exact h
    · have h2 := ih h1
      cases h3 : deep x (n + 1) with
      | false => rfl
      | true => rw [deep_mono x n h3] at h2; cases h2
theorem wrong_lstI (l : List Item) : wrong (lstI l) = l.any wrong := by rw [wrong_eq]; rfl
theorem tp_text32 {t : List UInt8} (h : t.length = 32) : (put (txtI t)).length = 33 := by
  show (putText t).length = 33
  unfold putText framed
  rw [if_neg (by omega), if_pos (by omega)]
  simp [h]
section
variable (K : List UInt8 → List UInt8)
inductive Sh : Bool → Item → Prop
  | leaf (p v : List UInt8) : isPath p = true → p.length ≤ 128 → v ≠ [] → v.length ≤ 1000 → Sh false (leafI p v)
  | ext (p : List UInt8) (x : Item) : isPath p = true → p ≠ [] → p.length ≤ 128 → Sh true x → Sh false (extI p (refI K x))
  | br (on : Nat → Bool) (b : Nat → Bool) (x : Nat → Item) (v : List UInt8) : v.length ≤ 1000 → (∀ h, on h = true → Sh (b h) (x h)) → Sh true (brI ((List.range 16).map fun h => bif on h then refI K (x h) else .none) v)
structure Fit (b : Bool) (x : Item) : Prop where
  right : wrong x = false
  short : (put x).length ≤ 20000
  flat : deep x 5 = false
  wide : b = true → 18 ≤ (put x).length
  flat4 : (put x).length < 32 → deep x 4 = false
  flat3 : b = true → (put x).length < 32 → deep x 3 = false
  flat2 : (put x).length ≤ 14 → deep x 2 = false
  node : isNodeP x = true
  list : x.isList = true
variable {K}
theorem Fit.encode {b : Bool} {x : Item} (h : Fit b x) : encode x = (put x, 0) := encode_good (deep_less h.flat (by omega)) h.right (by have := h.short; omega)
theorem Fit.refs {b : Bool} {x : Item} (h : Fit b x) : (refI K x = x ∧ (put x).length < 32) ∨ (refI K x = txtI (K (put x)) ∧ 32 ≤ (put x).length) := by
  unfold refI
  rw [h.encode]
  by_cases hl : (put x).length < 32
  · exact .inl ⟨by rw [if_pos hl], hl⟩
  · exact .inr ⟨by rw [if_neg hl], by omega⟩
theorem Fit.ref {b : Bool} {x : Item} (h : Fit b x) (hK : ∀ s, (K s).length = 32) : wrong (refI K x) = false ∧ (put (refI K x)).length ≤ 33 ∧ deep (refI K x) 4 = false ∧ isRefP (refI K x) = true ∧ (b = true → 18 ≤ (put (refI K x)).length) ∧ (b = true → deep (refI K x) 3 = false) ∧ ((put (refI K x)).length ≤ 14 → deep (refI K x) 2 = false) ∧ emptyI (refI K x) = false := by
  rcases h.refs with ⟨e, hl⟩ | ⟨e, hl⟩
  · rw [e]
    refine ⟨h.right, by omega, h.flat4 hl, ?_, h.wide, fun hb => h.flat3 hb hl, h.flat2, ?_⟩
    · unfold isRefP; rw [h.list]; exact h.node
    · unfold emptyI; rw [h.list]; rfl
  · rw [e]
    have h33 := tp_text32 (hK (put x))
    refine ⟨rfl, by omega, rfl, ?_, fun _ => by omega, fun _ => rfl, fun _ => rfl, ?_⟩
    · unfold isRefP
      show (if false = true then _ else decide ((K (put x)).length = 32)) = true
      rw [hK]; rfl
    · unfold emptyI
      show (!false && (K (put x)).isEmpty) = false
      cases hk : K (put x) with
      | nil => have := hK (put x); rw [hk] at this; simp at this
      | cons a r => rfl
theorem fit_leaf {p v : List UInt8} (hp : isPath p = true) (hl : p.length ≤ 128) (hv : v ≠ []) (hv2 : v.length ≤ 1000) : Fit false (leafI p v) := by
  have hf := form_length p true
  have h1 := tp_text (form p true).1
  have h2 := tp_text v
  have h3 := tp_lst [formI p true, txtI v]
  have h4 : (putAll [formI p true, txtI v]).length = (put (txtI (form p true).1)).length + (put (txtI v)).length := by simp [putAll, formI]
  have hd : deep (leafI p v) 2 = false := rfl
  refine ⟨rfl, ?_, deep_less hd (by omega), (fun h => by cases h), fun _ => deep_less hd (by omega), (fun h => by cases h), fun _ => hd, ?_, rfl⟩
  · show (put (lstI _)).length ≤ _
    omega
  · rw [isNodeP_eq]
    show (true && (if (2 : Nat) = 17 then _ else decide ((2 : Nat) = 2) && twoOk [formI p true, txtI v])) = true
    rw [if_neg (by omega)]
    unfold twoOk
    show (true && (true && (!(formI p true).isList && (decide ((read (form p true).1).2.2 = 0) && (if (read (form p true).1).2.1 = true then !(txtI v).isList && !v.isEmpty else _))))) = true
    rw [read_form_any p true hp]
    cases v with
    | nil => exact absurd rfl hv
    | cons a r => rfl
theorem fit_ext {p : List UInt8} {x : Item} (hp : isPath p = true) (hne : p ≠ []) (hl : p.length ≤ 128) (hx : Fit true x) (hK : ∀ s, (K s).length = 32) : Fit false (extI p (refI K x)) := by
  obtain ⟨r1, r2, r3, r4, r5, r6, r7, r8⟩ := hx.ref hK
  have hf := form_length p false
  have h1 := tp_text (form p false).1
  have h3 := tp_lst [formI p false, refI K x]
  have h4 : (putAll [formI p false, refI K x]).length = (put (txtI (form p false).1)).length + (put (refI K x)).length := by simp [putAll, formI]
  have hd : deep (extI p (refI K x)) 4 = false := by
    unfold extI
    rw [deep_lst]
    simp only [List.any_cons, List.any_nil, r6 rfl, Bool.or_false]
    rfl
  refine ⟨?_, ?_, deep_less hd (by omega), (fun h => by cases h), fun _ => hd, (fun h => by cases h), fun h => ?_, ?_, rfl⟩
  · unfold extI
    rw [wrong_lstI]
    simp only [List.any_cons, List.any_nil, r1, Bool.or_false]
    rfl
  · show (put (lstI _)).length ≤ _
    omega
  · have := r5 rfl
    have : (put (extI p (refI K x))).length = (put (lstI [formI p false, refI K x])).length := rfl
    omega
  · rw [isNodeP_eq]
    show (true && (if (2 : Nat) = 17 then _ else decide ((2 : Nat) = 2) && twoOk [formI p false, refI K x])) = true
    rw [if_neg (by omega)]
    unfold twoOk
    show (true && (true && (!(formI p false).isList && (decide ((read (form p false).1).2.2 = 0) && (if (read (form p false).1).2.1 = true then _ else !(read (form p false).1).1.isEmpty && isRefP (refI K x)))))) = true
    rw [read_form_any p false hp, r4]
    cases p with
    | nil => exact absurd rfl hne
    | cons a r => rfl
theorem range_getD {α : Type} (n : Nat) (g : Nat → α) (z : α) (t : List α) (i : Nat) (h : i < n) : (((List.range n).map g) ++ t).getD i z = g i := by
  rw [List.getD_eq_getElem?_getD, List.getElem?_append_left (by simpa using h), List.getElem?_map, List.getElem?_range h]
  rfl
theorem range_last {α : Type} (n : Nat) (g : Nat → α) (z a : α) : (((List.range n).map g) ++ [a]).getD n z = a := by
  rw [List.getD_eq_getElem?_getD, List.getElem?_append_right (by simp)]
  simp
theorem fit_br {on b : Nat → Bool} {x : Nat → Item} {v : List UInt8} (hv : v.length ≤ 1000) (hx : ∀ h, on h = true → Fit (b h) (x h)) (hK : ∀ s, (K s).length = 32) : Fit true (brI ((List.range 16).map fun h => bif on h then refI K (x h) else .none) v) := by
  obtain ⟨cs, hcs⟩ : ∃ cs, ((List.range 16).map fun h => bif on h then refI K (x h) else Item.none) = cs := ⟨_, rfl⟩
  have hlen : cs.length = 16 := by rw [← hcs]; simp
  have hmem : ∀ c ∈ cs, c = .none ∨ ∃ h, on h = true ∧ c = refI K (x h) := fun c hc => by
    rw [← hcs] at hc
    obtain ⟨h, _, rfl⟩ := List.mem_map.1 hc
    cases ho : on h with
    | true => exact .inr ⟨h, ho, rfl⟩
    | false => exact .inl rfl
  have hn1 : (put Item.none).length = 1 := by decide
  have h2 := tp_text v
  have h3 := tp_lst (cs ++ [txtI v])
  have h4 : (putAll (cs ++ [txtI v])).length = (putAll cs).length + (put (txtI v)).length := by rw [putAll_append]; simp [putAll]
  have h5 : (putAll cs).length ≤ 33 * cs.length := tp_le fun c hc => by
    rcases hmem c hc with rfl | ⟨h, ho, rfl⟩
    · omega
    · exact ((hx h ho).ref hK).2.1
  have h6 : ∀ c ∈ cs, (put c).length + 16 ≤ (putAll cs).length + 1 := fun c hc => by have := tp_mem hc; omega
  have h7 : 16 ≤ (putAll cs).length := by
    cases cs with
    | nil => simp at hlen
    | cons c r => have := h6 c List.mem_cons_self; have := tp_pos c; omega
  have hdeep : ∀ m, (∀ c ∈ cs, deep c (m + 1) = false) → deep (brI cs v) (m + 2) = false := fun m h => by
    unfold brI
    rw [deep_lst, List.any_append]
    have : (cs.any fun y => deep y (m + 1)) = false := by
      rw [List.any_eq_false]
      intro c hc
      rw [h c hc]; simp
    rw [this]
    rfl
  have hnd : ∀ m, deep Item.none (m + 1) = false := fun m => rfl
  have hd5 : deep (brI cs v) 5 = false := hdeep 3 fun c hc => by
    rcases hmem c hc with rfl | ⟨h, ho, rfl⟩
    · rfl
    · exact ((hx h ho).ref hK).2.2.1
  have hd3 : (put (brI cs v)).length < 32 → deep (brI cs v) 3 = false := fun hs => hdeep 1 fun c hc => by
    have hc6 := h6 c hc
    have : (put (brI cs v)).length = (put (lstI (cs ++ [txtI v]))).length := rfl
    rcases hmem c hc with rfl | ⟨h, ho, rfl⟩
    · rfl
    · exact ((hx h ho).ref hK).2.2.2.2.2.2.1 (by omega)
  rw [hcs]
  have hbr : (put (brI cs v)).length = (put (lstI (cs ++ [txtI v]))).length := rfl
  refine ⟨?_, by omega, hd5, fun _ => by omega, fun h => deep_less (hd3 h) (by omega), fun _ => hd3, fun h => by omega, ?_, rfl⟩
  · unfold brI
    rw [wrong_lstI, List.any_append]
    have : cs.any wrong = false := by
      rw [List.any_eq_false]
      intro c hc
      rcases hmem c hc with rfl | ⟨h, ho, rfl⟩
      · decide
      · rw [((hx h ho).ref hK).1]; simp
    rw [this]
    rfl
  · rw [isNodeP_eq]
    show (true && (if (cs ++ [txtI v]).length = 17 then brOk (cs ++ [txtI v]) else _)) = true
    rw [if_pos (by simp [hlen])]
    unfold brOk
    rw [Bool.true_and, Bool.and_eq_true]
    constructor
    · rw [List.all_eq_true]
      intro i hi
      have hi' := List.mem_range.1 hi
      rw [← hcs, range_getD 16 _ _ _ i hi']
      cases ho : on i with
      | false => rfl
      | true => rw [cond_true, ((hx i ho).ref hK).2.2.2.1, Bool.or_true]
    · rw [← hcs, range_last]; rfl
theorem Sh.fit (hK : ∀ s, (K s).length = 32) {b : Bool} {x : Item} (h : Sh K b x) : Fit b x := by
  induction h with
  | leaf p v hp hl hv hv2 => exact fit_leaf hp hl hv hv2
  | ext p x hp hne hl _ ih => exact fit_ext hp hne hl ih hK
  | br on b x v hv _ ih => exact fit_br hv ih hK
def Fair (ps : List PairD) : Prop := ∀ q ∈ ps, q.2 ≠ [] ∧ q.2.length ≤ 1000
theorem ending_len {ps : List PairD} (h : Fair ps) (d : Nat) : (endingP ps d).length ≤ 1000 := by
  induction ps with
  | nil => simp [endingP]
  | cons q r ih =>
    unfold endingP
    split
    · exact (h q List.mem_cons_self).2
    · exact ih fun x hx => h x (List.mem_cons_of_mem _ hx)
theorem isPath_pth (q : PairD) : isPath (pth q) = true := isPath_halves q.1
theorem fair_having {ps : List PairD} {d : Nat} {h : UInt8} {x : PairD} {m : List PairD} (hf : Fair ps) (he : havingP ps d h = x :: m) : Fair (x :: m) := fun q hq => by
  rw [← he] at hq
  exact hf q (mem_having.1 hq).1
theorem node_sh (f : Nat) (ps : List PairD) (d : Nat) (hv : Valid ps d) (hr : Fair ps) (hf : 129 ≤ d + f) : ∃ b, Sh K b (nodeP K f ps d) ∧ (2 ≤ ps.length → alikeP ps d = 0 → b = true) := by
  induction f generalizing ps d with
  | zero => have := valid_le hv; omega
  | succ f ih =>
    match ps, hv, hr with
    | [], hv, hr => exact absurd rfl hv.1
    | [q], hv, hr =>
      obtain ⟨h1, h2⟩ := hr q List.mem_cons_self
      have h3 := hv.2 q List.mem_cons_self
      exact ⟨false, Sh.leaf _ _ (isPath_drop (isPath_pth q) d) (by rw [List.length_drop]; omega) h1 h2, fun h => by simp at h⟩
    | q :: q2 :: r, hv, hr =>
      unfold nodeP
      dsimp only
      have h3 := hv.2 q List.mem_cons_self
      split
      · rename_i hn
        obtain ⟨b, h1, h2⟩ := ih _ _ (valid_ext hv) hr (by omega)
        obtain rfl : b = true := h2 (by simp) (alike_zero _ _)
        refine ⟨false, Sh.ext _ _ (isPath_take (isPath_drop (isPath_pth q) d) _) (fun h => ?_) (by rw [List.length_take, List.length_drop]; omega) h1, fun _ h => by omega⟩
        have h4 := congrArg List.length h
        have h5 := alike_len (d := d) (x := q) (ps := q :: q2 :: r) List.mem_cons_self
        rw [List.length_take, List.length_drop, List.length_nil] at h4
        omega
      · refine ⟨true, ?_, fun _ _ => rfl⟩
        have h6 : ∀ h : Nat, (!(havingP (q :: q2 :: r) d (UInt8.ofNat h)).isEmpty) = true → ∃ b, Sh K b (nodeP K f (havingP (q :: q2 :: r) d (UInt8.ofNat h)) (d + 1)) := fun h ho => by
          cases he : havingP (q :: q2 :: r) d (UInt8.ofNat h) with
          | nil => rw [he] at ho; cases ho
          | cons x m =>
            obtain ⟨b, h1, _⟩ := ih _ _ (valid_having hv he) (fair_having hr he) (by omega)
            exact ⟨b, h1⟩
        have h7 := Sh.br (K := K) (fun h => !(havingP (q :: q2 :: r) d (UInt8.ofNat h)).isEmpty) (fun h => if ho : (!(havingP (q :: q2 :: r) d (UInt8.ofNat h)).isEmpty) = true then (h6 h ho).choose else false) (fun h => nodeP K f (havingP (q :: q2 :: r) d (UInt8.ofNat h)) (d + 1)) (endingP (q :: q2 :: r) d) (ending_len hr d) (fun h ho => by
          rw [dif_pos ho]
          exact (h6 h ho).choose_spec)
        have h8 : ((List.range 16).map fun h => bif !(havingP (q :: q2 :: r) d (UInt8.ofNat h)).isEmpty then refI K (nodeP K f (havingP (q :: q2 :: r) d (UInt8.ofNat h)) (d + 1)) else Item.none) = (List.range 16).map fun h => match havingP (q :: q2 :: r) d (UInt8.ofNat h) with
            | [] => Item.none
            | x :: m => refI K (nodeP K f (x :: m) (d + 1)) := List.map_congr_left fun h _ => by
          cases havingP (q :: q2 :: r) d (UInt8.ofNat h) <;> rfl
        rw [h8] at h7
        exact h7
theorem node_fit (hK : ∀ s, (K s).length = 32) (f : Nat) (ps : List PairD) (d : Nat) (hv : Valid ps d) (hr : Fair ps) (hf : 129 ≤ d + f) : ∃ b, Fit b (nodeP K f ps d) := by
  obtain ⟨b, h, _⟩ := node_sh (K := K) f ps d hv hr hf
  exact ⟨b, h.fit hK⟩
end
end Go.Proofs.YthicdhnjincflaaGreatDoor
/- Plain: what a list of nodes proves of a path: the way of a path proves what the pairs have there; whatever proves something tells what they have, or two texts have one digest; two lists that prove unlike things too. -/
namespace Go.Proofs.YthicdhnjincflaaGreatDoor
open Go.RowKit
inductive Way where
  | stop (v : List UInt8)
  | next (y : Item) (path : List UInt8)
def stepP (x : Item) (path : List UInt8) : Way :=
  if x.list.length = 17 then match path with
    | [] => .stop (x.list.getD 16 .none).text
    | h :: t => if emptyI (x.list.getD h.toNat .none) then .stop [] else .next (x.list.getD h.toNat .none) t
  else if (read (x.list.getD 0 .none).text).2.1 then .stop (if (read (x.list.getD 0 .none).text).1 = path then (x.list.getD 1 .none).text else [])
  else if (read (x.list.getD 0 .none).text).1.isPrefixOf path then .next (x.list.getD 1 .none) (path.drop (read (x.list.getD 0 .none).text).1.length) else .stop []
def lookupP : List PairD → List UInt8 → List UInt8
  | [], _ => []
  | q :: r, path => if pth q = path then q.2 else lookupP r path
section
variable (K : List UInt8 → List UInt8)
def openP (ref : Item) (proof : List (List UInt8)) : Option (Item × List (List UInt8)) :=
  if ref.isList then some (ref, proof) else match proof with
    | [] => none
    | s :: rest => if K s = ref.text ∧ (decode s).2 = 0 then some ((decode s).1, rest) else none
def nodeOf (ref : Item) (proof : List (List UInt8)) : Option (Item × List (List UInt8)) := match openP K ref proof with
  | none => none
  | some (x, rest) => if isNodeP x then some (x, rest) else none
def underP : Nat → Item → List UInt8 → List (List UInt8) → Option (List UInt8 × List (List UInt8))
  | 0, _, _, _ => none
  | f + 1, ref, path, proof => match nodeOf K ref proof with
    | none => none
    | some (x, rest) => match stepP x path with
      | .stop v => some (v, rest)
      | .next y p => underP f y p rest
def topP (f : Nat) (ps : List PairD) (d : Nat) : Item := if d = 0 then txtI (K (bytesP K f ps d)) else refI K (nodeP K f ps d)
end
theorem step_short {x y : Item} {path p : List UInt8} (hx : isNodeP x = true) (h : stepP x path = .next y p) : p.length < path.length ∧ (isPath path = true → isPath p = true) := by
  unfold stepP at h
  by_cases h17 : x.list.length = 17
  · rw [if_pos h17] at h
    cases path with
    | nil => cases h
    | cons a t =>
      dsimp only at h
      split at h
      · cases h
      · cases h
        refine ⟨by simp, fun hp => ?_⟩
        rw [isPath_cons] at hp
        exact (Bool.and_eq_true_iff.1 hp).2
  · rw [if_neg h17] at h
    rw [isNodeP_eq, if_neg h17] at hx
    simp only [Bool.and_eq_true] at hx
    obtain ⟨_, _, h3⟩ := hx
    unfold twoOk at h3
    simp only [Bool.and_eq_true] at h3
    obtain ⟨_, _, h4⟩ := h3
    split at h
    · cases h
    · rename_i hl
      rw [if_neg hl] at h4
      split at h
      · rename_i hpre
        cases h
        have h5 : (read (x.list.getD 0 .none).text).1 ≠ [] := fun e => by rw [e] at h4; simp at h4
        have h6 := (List.isPrefixOf_iff_prefix.1 hpre).length_le
        have h7 : 0 < (read (x.list.getD 0 .none).text).1.length := List.length_pos_iff.2 h5
        refine ⟨by rw [List.length_drop]; omega, fun hp => isPath_drop hp _⟩
      · cases h
section
variable (K : List UInt8 → List UInt8)
theorem node_node {ref : Item} {proof rest : List (List UInt8)} {x : Item} (h : nodeOf K ref proof = some (x, rest)) : isNodeP x = true ∧ openP K ref proof = some (x, rest) := by
  unfold nodeOf at h
  cases ho : openP K ref proof with
  | none => rw [ho] at h; cases h
  | some q =>
    obtain ⟨y, r⟩ := q
    rw [ho] at h
    dsimp only at h
    split at h
    · rename_i hn; cases h; exact ⟨hn, rfl⟩
    · cases h
end
/-! lookups -/
theorem lookup_none {ps : List PairD} {path : List UInt8} (h : ∀ q ∈ ps, pth q ≠ path) : lookupP ps path = [] := by
  induction ps with
  | nil => rfl
  | cons q r ih =>
    unfold lookupP
    rw [if_neg (h q List.mem_cons_self)]
    exact ih fun x hx => h x (List.mem_cons_of_mem _ hx)
theorem lookup_having {ps : List PairD} {d : Nat} {h : UInt8} {path : List UInt8} (hp : path[d]? = some h) : lookupP ps path = lookupP (havingP ps d h) path := by
  induction ps with
  | nil => rfl
  | cons q r ih =>
    unfold havingP at ih ⊢
    rw [List.filter_cons]
    by_cases hq : ((pth q)[d]? == some h) = true
    · rw [if_pos hq]
      unfold lookupP
      rw [ih]
    · rw [if_neg hq, ← ih]
      have hne : pth q ≠ path := fun e => hq (by rw [e, hp]; simp)
      show (if pth q = path then q.2 else lookupP r path) = _
      rw [if_neg hne]
theorem lookup_ending {ps : List PairD} {d : Nat} {path : List UInt8} (hd : path.length = d) (h : ∀ q ∈ ps, (pth q).take d = path.take d) : lookupP ps path = endingP ps d := by
  induction ps with
  | nil => rfl
  | cons q r ih =>
    unfold lookupP endingP
    have h1 := h q List.mem_cons_self
    rw [ih fun x hx => h x (List.mem_cons_of_mem _ hx)]
    have hl : (pth q).length = 2 * q.1.length := halves_length q.1
    by_cases e : 2 * q.1.length = d
    · rw [if_pos e]
      rw [List.take_of_length_le (by omega), List.take_of_length_le (by omega)] at h1
      rw [if_pos h1]
    · rw [if_neg e, if_neg fun h2 => e (by rw [← hl, h2, hd])]
def Along (ps : List PairD) (d : Nat) (path : List UInt8) : Prop := ∀ q ∈ ps, (pth q).take d = path.take d
section
variable (K : List UInt8 → List UInt8)
theorem node_two (f : Nat) (q q2 : PairD) (r : List PairD) (d : Nat) : nodeP K (f + 1) (q :: q2 :: r) d = if 0 < alikeP (q :: q2 :: r) d then extI (((pth q).drop d).take (alikeP (q :: q2 :: r) d)) (refI K (nodeP K f (q :: q2 :: r) (d + alikeP (q :: q2 :: r) d)))
      else brI ((List.range 16).map fun h => match havingP (q :: q2 :: r) d (UInt8.ofNat h) with
        | [] => .none
        | x :: m => refI K (nodeP K f (x :: m) (d + 1))) (endingP (q :: q2 :: r) d) := rfl
def wayTail (f : Nat) (ps : List PairD) (d : Nat) (path : List UInt8) : List (List UInt8) := match ps with
    | [] => []
    | [_] => []
    | q :: q2 :: r => if 0 < alikeP (q :: q2 :: r) d then
        (if path.length < d + alikeP (q :: q2 :: r) d ∨ (path.drop d).take (alikeP (q :: q2 :: r) d) ≠ ((pth q).drop d).take (alikeP (q :: q2 :: r) d) then [] else wayP K f (q :: q2 :: r) (d + alikeP (q :: q2 :: r) d) path)
      else match path[d]? with
        | none => []
        | some h => match havingP (q :: q2 :: r) d h with
          | [] => []
          | x :: m => wayP K f (x :: m) (d + 1) path
def nodesTail (f : Nat) (ps : List PairD) (d : Nat) : List (List UInt8) := match ps with
    | [] => []
    | [_] => []
    | q :: q2 :: r => if 0 < alikeP (q :: q2 :: r) d then nodesP K f (q :: q2 :: r) (d + alikeP (q :: q2 :: r) d)
      else (List.range 16).flatMap fun h => match havingP (q :: q2 :: r) d (UInt8.ofNat h) with
        | [] => []
        | x :: m => nodesP K f (x :: m) (d + 1)
theorem way_tail (f : Nat) (ps : List PairD) (d : Nat) (path : List UInt8) : wayP K (f + 1) ps d path = toldP K (f + 1) ps d ++ wayTail K f ps d path := rfl
variable {K}
theorem take_split {a b : List UInt8} {d n : Nat} (h1 : a.take d = b.take d) (h2 : (a.drop d).take n = (b.drop d).take n) : a.take (d + n) = b.take (d + n) := by
  rw [List.take_add, List.take_add, h1, h2]
theorem eq_of_split {a b : List UInt8} {d : Nat} (h1 : a.take d = b.take d) (h2 : a.drop d = b.drop d) : a = b := by
  rw [← List.take_append_drop d a, ← List.take_append_drop d b, h1, h2]
theorem take_common {a b : List UInt8} {n : Nat} (h : n ≤ common a b) : a.take n = b.take n := by
  have h2 := congrArg (List.take n) (common_take a b)
  rwa [List.take_take, List.take_take, Nat.min_eq_left h] at h2
theorem step_node (hK : ∀ s, (K s).length = 32) (f : Nat) (ps : List PairD) (d : Nat) (path : List UInt8) (hv : Valid ps d) (hr : Fair ps) (hf : 129 ≤ d + (f + 1)) (hp : isPath path = true) (hd : d ≤ path.length) (ha : Along ps d path) :
    (stepP (nodeP K (f + 1) ps d) (path.drop d) = .stop (lookupP ps path) ∧ wayTail K f ps d path = []) ∨
    ∃ ps' d', stepP (nodeP K (f + 1) ps d) (path.drop d) = .next (refI K (nodeP K f ps' d')) (path.drop d') ∧ wayTail K f ps d path = wayP K f ps' d' path ∧ (∀ a ∈ nodesP K f ps' d', a ∈ nodesTail K f ps d) ∧
      lookupP ps path = lookupP ps' path ∧ Valid ps' d' ∧ Fair ps' ∧ Along ps' d' path ∧ d < d' ∧ d' ≤ path.length := by
  match ps, hv, hr, ha with
  | [], hv, hr, ha => exact absurd rfl hv.1
  | [q], hv, hr, ha =>
    left
    refine ⟨?_, rfl⟩
    have h1 := ha q List.mem_cons_self
    show stepP (leafI ((pth q).drop d) q.2) _ = _
    unfold stepP
    show (if (2 : Nat) = 17 then _ else if (read (form ((pth q).drop d) true).1).2.1 then Way.stop (if (read (form ((pth q).drop d) true).1).1 = path.drop d then q.2 else []) else _) = _
    rw [if_neg (by omega), read_form_any _ true (isPath_drop (isPath_pth q) d), if_pos rfl]
    show Way.stop (if (pth q).drop d = path.drop d then q.2 else []) = .stop (if pth q = path then q.2 else [])
    by_cases e : pth q = path
    · rw [if_pos e, if_pos (by rw [e])]
    · rw [if_neg e, if_neg fun h => e (eq_of_split h1 h)]
  | q :: q2 :: r, hv, hr, ha =>
    obtain ⟨ps, hps⟩ : ∃ ps, q :: q2 :: r = ps := ⟨_, rfl⟩
    have hq0 : q ∈ ps := by rw [← hps]; exact List.mem_cons_self
    have hal : ∀ x ∈ ps, alikeP ps d ≤ common ((pth q).drop d) ((pth x).drop d) := fun x hx => by
      rw [← hps] at hx ⊢
      exact alike_mem hx
    by_cases hn : 0 < alikeP ps d
    · have e1 : nodeP K (f + 1) ps d = extI (((pth q).drop d).take (alikeP ps d)) (refI K (nodeP K f ps (d + alikeP ps d))) := by
        rw [← hps] at hn ⊢
        rw [node_two]
        rw [if_pos hn]
      have e2 : wayTail K f ps d path = if path.length < d + alikeP ps d ∨ (path.drop d).take (alikeP ps d) ≠ ((pth q).drop d).take (alikeP ps d) then [] else wayP K f ps (d + alikeP ps d) path := by
        rw [← hps] at hn ⊢
        unfold wayTail
        dsimp only
        rw [if_pos hn]
      have e3 : nodesTail K f ps d = nodesP K f ps (d + alikeP ps d) := by
        rw [← hps] at hn ⊢
        unfold nodesTail
        dsimp only
        rw [if_pos hn]
      rw [hps] at hv hr ha ⊢
      obtain ⟨n, hne⟩ : ∃ n, alikeP ps d = n := ⟨_, rfl⟩
      have hln := alike_len (d := d) hq0
      have hve := valid_ext hv
      rw [hne] at e1 e2 e3 hn hal hln hve
      have hpl : (((pth q).drop d).take n).length = n := by
        have := hv.2 q hq0
        rw [List.length_take, List.length_drop]; omega
      have hst : stepP (nodeP K (f + 1) ps d) (path.drop d) = if (((pth q).drop d).take n).isPrefixOf (path.drop d) then .next (refI K (nodeP K f ps (d + n))) (path.drop (d + n)) else .stop [] := by
        rw [e1]
        unfold stepP
        show (if (2 : Nat) = 17 then _ else if (read (form (((pth q).drop d).take n) false).1).2.1 then _ else if (read (form (((pth q).drop d).take n) false).1).1.isPrefixOf (path.drop d) then Way.next (refI K (nodeP K f ps (d + n))) ((path.drop d).drop (read (form (((pth q).drop d).take n) false).1).1.length) else Way.stop []) = _
        rw [if_neg (by omega), read_form_any _ false (isPath_take (isPath_drop (isPath_pth q) d) n), if_neg (by simp)]
        dsimp only
        rw [hpl, List.drop_drop]
      by_cases hpre : (((pth q).drop d).take n).isPrefixOf (path.drop d) = true
      · right
        have hpx := List.isPrefixOf_iff_prefix.1 hpre
        have h1 : (path.drop d).take n = ((pth q).drop d).take n := by
          have h2 := List.prefix_iff_eq_take.1 hpx
          rw [hpl] at h2
          exact h2.symm
        have h3 : d + n ≤ path.length := by
          have := hpx.length_le
          rw [hpl, List.length_drop] at this
          omega
        refine ⟨ps, d + n, by rw [hst, if_pos hpre], ?_, by rw [e3]; exact fun _ h => h, rfl, hve, hr, fun x hx => ?_, by omega, h3⟩
        · rw [e2, if_neg]
          rintro (h4 | h4)
          · omega
          · exact h4 h1
        · refine take_split (ha x hx) ?_
          rw [← take_common (hal x hx), h1]
      · left
        have hlk : lookupP ps path = [] := lookup_none fun x hx e => hpre (by
          rw [List.isPrefixOf_iff_prefix, take_common (hal x hx), e]
          exact List.take_prefix _ _)
        refine ⟨by rw [hst, if_neg hpre, hlk], ?_⟩
        rw [e2, if_pos]
        by_cases h4 : path.length < d + n
        · exact .inl h4
        · refine .inr fun h5 => hpre ?_
          rw [List.isPrefixOf_iff_prefix, ← h5]
          exact List.take_prefix _ _
    · have e1 : nodeP K (f + 1) ps d = brI ((List.range 16).map fun h => match havingP ps d (UInt8.ofNat h) with
          | [] => .none
          | x :: m => refI K (nodeP K f (x :: m) (d + 1))) (endingP ps d) := by
        rw [← hps] at hn ⊢
        rw [node_two]
        rw [if_neg hn]
      have e2 : wayTail K f ps d path = match path[d]? with
          | none => []
          | some h => match havingP ps d h with
            | [] => []
            | x :: m => wayP K f (x :: m) (d + 1) path := by
        rw [← hps] at hn ⊢
        unfold wayTail
        dsimp only
        rw [if_neg hn]
      have e3 : nodesTail K f ps d = (List.range 16).flatMap fun h => match havingP ps d (UInt8.ofNat h) with
          | [] => []
          | x :: m => nodesP K f (x :: m) (d + 1) := by
        rw [← hps] at hn ⊢
        unfold nodesTail
        dsimp only
        rw [if_neg hn]
      rw [hps] at hv hr ha ⊢
      have h17 : (((List.range 16).map fun h => match havingP ps d (UInt8.ofNat h) with
          | [] => Item.none
          | x :: m => refI K (nodeP K f (x :: m) (d + 1))) ++ [txtI (endingP ps d)]).length = 17 := by simp
      cases hpd : path[d]? with
      | none =>
        left
        have hlen : path.length = d := by have := List.getElem?_eq_none_iff.1 hpd; omega
        refine ⟨?_, by rw [e2, hpd]⟩
        rw [lookup_ending hlen ha, e1, List.drop_of_length_le (by omega)]
        unfold stepP brI
        show (if (((List.range 16).map _) ++ [txtI (endingP ps d)]).length = 17 then Way.stop ((((List.range 16).map _) ++ [txtI (endingP ps d)]).getD 16 .none).text else _) = _
        rw [if_pos h17, range_last]
        rfl
      | some h =>
        have hh := isPath_at hp hpd
        have hlt := (List.getElem?_eq_some_iff.1 hpd).1
        have hdr : path.drop d = h :: path.drop (d + 1) := by
          obtain ⟨hl, he⟩ := List.getElem?_eq_some_iff.1 hpd
          rw [← he]
          exact List.drop_eq_getElem_cons hl
        have hch : ((((List.range 16).map fun h => match havingP ps d (UInt8.ofNat h) with
            | [] => Item.none
            | x :: m => refI K (nodeP K f (x :: m) (d + 1))) ++ [txtI (endingP ps d)]).getD h.toNat .none) = match havingP ps d h with
            | [] => Item.none
            | x :: m => refI K (nodeP K f (x :: m) (d + 1)) := by
          rw [range_getD 16 _ _ _ h.toNat (by omega)]
          rw [UInt8.ofNat_toNat]
        have hst : stepP (nodeP K (f + 1) ps d) (path.drop d) = if emptyI (match havingP ps d h with
            | [] => Item.none
            | x :: m => refI K (nodeP K f (x :: m) (d + 1))) then .stop [] else .next (match havingP ps d h with
            | [] => Item.none
            | x :: m => refI K (nodeP K f (x :: m) (d + 1))) (path.drop (d + 1)) := by
          rw [e1, hdr]
          unfold stepP brI
          rw [← hch]
          show (if (((List.range 16).map _) ++ [txtI (endingP ps d)]).length = 17 then (if emptyI ((((List.range 16).map _) ++ [txtI (endingP ps d)]).getD h.toNat .none) then Way.stop [] else Way.next ((((List.range 16).map _) ++ [txtI (endingP ps d)]).getD h.toNat .none) (path.drop (d + 1))) else _) = _
          rw [if_pos h17]
        have hlk := lookup_having (ps := ps) hpd
        cases hm : havingP ps d h with
        | nil =>
          left
          rw [hm] at hst hlk
          refine ⟨by rw [hst, hlk]; rfl, by rw [e2, hpd]; dsimp only; rw [hm]⟩
        | cons x m =>
          right
          have hv2 := valid_having hv hm
          have hr2 := fair_having hr hm
          obtain ⟨b, hfit⟩ := node_fit (K := K) hK f _ _ hv2 hr2 (by omega)
          rw [hm] at hst hlk
          refine ⟨x :: m, d + 1, ?_, by rw [e2, hpd]; dsimp only; rw [hm], fun a hma => ?_, hlk, hv2, hr2, fun y hy => ?_, by omega, by omega⟩
          · rw [hst]
            dsimp only
            rw [(hfit.ref hK).2.2.2.2.2.2.2]
            rfl
          · rw [e3, List.mem_flatMap]
            refine ⟨h.toNat, List.mem_range.2 (by omega), ?_⟩
            rw [UInt8.ofNat_toNat, hm]
            exact hma
          · rw [← hm] at hy
            obtain ⟨h1, h2⟩ := mem_having.1 hy
            rw [List.take_add_one, List.take_add_one, ha y h1, h2, hpd]
theorem honest (hK : ∀ s, (K s).length = 32) (f : Nat) (ps : List PairD) (d : Nat) (path : List UInt8) (hv : Valid ps d) (hr : Fair ps) (hf : 129 ≤ d + f) (hp : isPath path = true) (hd : d ≤ path.length) (ha : Along ps d path) (g : Nat) (hg : path.length - d < g) (more : List (List UInt8)) :
    underP K g (topP K f ps d) (path.drop d) (wayP K f ps d path ++ more) = some (lookupP ps path, more) := by
  induction f generalizing ps d g with
  | zero => have := valid_le hv; omega
  | succ f ih =>
    cases g with
    | zero => omega
    | succ g =>
      obtain ⟨b, hfit⟩ := node_fit (K := K) hK (f + 1) ps d hv hr hf
      have henc := hfit.encode
      have hno : ∀ t, nodeOf K (topP K (f + 1) ps d) (toldP K (f + 1) ps d ++ t) = some (nodeP K (f + 1) ps d, t) := fun t => by
        have hby : bytesP K (f + 1) ps d = put (nodeP K (f + 1) ps d) := by unfold bytesP; rw [henc]
        have hdec := decode_encode henc
        have hsome : nodeOf K (txtI (K (bytesP K (f + 1) ps d))) ([bytesP K (f + 1) ps d] ++ t) = some (nodeP K (f + 1) ps d, t) := by
          unfold nodeOf openP
          show (match (if K (bytesP K (f + 1) ps d) = K (bytesP K (f + 1) ps d) ∧ (decode (bytesP K (f + 1) ps d)).2 = 0 then some ((decode (bytesP K (f + 1) ps d)).1, t) else none) with
            | none => none
            | some (x, rest) => if isNodeP x then some (x, rest) else none) = _
          rw [hby, hdec, if_pos ⟨rfl, rfl⟩]
          dsimp only
          rw [if_pos hfit.node]
        unfold topP toldP
        by_cases h0 : d = 0
        · rw [if_pos h0, if_pos (.inl h0)]
          exact hsome
        · rw [if_neg h0]
          rcases hfit.refs (K := K) with ⟨e, hl⟩ | ⟨e, hl⟩
          · rw [e, if_neg (by rw [hby]; omega)]
            unfold nodeOf openP
            rw [if_pos hfit.list]
            dsimp only
            rw [List.nil_append, if_pos hfit.node]
          · rw [if_pos (.inr (by rw [hby]; omega)), e, ← hby]
            exact hsome
      rw [way_tail, List.append_assoc]
      unfold underP
      rw [hno]
      dsimp only
      rcases step_node (K := K) hK f ps d path hv hr hf hp hd ha with ⟨h1, h2⟩ | ⟨ps', d', h1, h2, _, h3, hv', hr', ha', h4, h5⟩
      · rw [h1, h2]
        rfl
      · rw [h1, h2, h3]
        dsimp only
        have h6 := ih ps' d' hv' hr' (by omega) h5 ha' g (by omega)
        unfold topP at h6
        rw [if_neg (by omega)] at h6
        exact h6
end
end Go.Proofs.YthicdhnjincflaaGreatDoor
/- Plain: what a check of a key comes to, which texts refer to each other, and the laws of checks. -/
namespace Go.Proofs.YthicdhnjincflaaGreatDoor
open Go.RowKit
def sizesP (root : List UInt8) (l : List (List UInt8)) : Bool := l.all (fun s => decide (s.length ≤ 65536)) && (decide (root.length = 32) && decide (l.length ≤ 140))
def keyOk (key : List UInt8) : Bool := !key.isEmpty && decide (key.length ≤ 64)
section
variable (K : List UInt8 → List UInt8)
def foundP (root path : List UInt8) (l : List (List UInt8)) : Option (List UInt8) := match underP K 129 (txtI root) path l with
  | some (v, []) => some v
  | _ => none
def checkP (root key : List UInt8) (l : List (List UInt8)) : List UInt8 × Int :=
  if !(sizesP root l && keyOk key) then ([], 2)
  else if l.isEmpty then (if root = K [128] then ([], 0) else ([], 70))
  else match foundP K root (halves key) l with
    | some v => (v, 0)
    | none => ([], 70)
def Clash (l : List (List UInt8)) : Prop := ∃ a ∈ l, ∃ b ∈ l, a ≠ b ∧ K a = K b
variable {K}
theorem check_bad {root key : List UInt8} {l : List (List UInt8)} (h : (sizesP root l && keyOk key) = false) : checkP K root key l = ([], 2) := by
  unfold checkP; rw [h]; rfl
theorem check_none {root key : List UInt8} (h : (sizesP root [] && keyOk key) = true) : checkP K root key [] = if root = K [128] then ([], 0) else ([], 70) := by
  unfold checkP; rw [h]; rfl
theorem check_some {root key s : List UInt8} {l : List (List UInt8)} (h : (sizesP root (s :: l) && keyOk key) = true) : checkP K root key (s :: l) = match foundP K root (halves key) (s :: l) with
    | some v => (v, 0)
    | none => ([], 70) := by
  unfold checkP; rw [h]; rfl
theorem sizes_append {root : List UInt8} {l m : List (List UInt8)} : sizesP root (l ++ m) = true ↔ (∀ s ∈ l, s.length ≤ 65536) ∧ (∀ s ∈ m, s.length ≤ 65536) ∧ root.length = 32 ∧ l.length + m.length ≤ 140 := by
  unfold sizesP
  rw [List.all_append, List.length_append]
  simp only [Bool.and_eq_true, List.all_eq_true, decide_eq_true_eq]
  constructor
  · rintro ⟨⟨h1, h2⟩, h3, h4⟩; exact ⟨h1, h2, h3, h4⟩
  · rintro ⟨h1, h2, h3, h4⟩; exact ⟨⟨h1, h2⟩, h3, h4⟩
theorem step_mem {x y : Item} {path p : List UInt8} (hx : isNodeP x = true) (h : stepP x path = .next y p) (hp : isPath path = true) : y ∈ x.list ∧ x.isList = true := by
  have hl : x.isList = true := by rw [isNodeP_eq] at hx; exact (Bool.and_eq_true_iff.1 hx).1
  refine ⟨?_, hl⟩
  have hget : ∀ i, i < x.list.length → x.list.getD i .none ∈ x.list := fun i hi => by
    rw [List.getD_eq_getElem?_getD, List.getElem?_eq_getElem hi]
    exact List.getElem_mem _
  unfold stepP at h
  by_cases h17 : x.list.length = 17
  · rw [if_pos h17] at h
    cases path with
    | nil => cases h
    | cons a t =>
      dsimp only at h
      have ha := isPath_at hp (i := 0) (x := a) rfl
      split at h
      · cases h
      · cases h
        exact hget _ (by omega)
  · rw [if_neg h17] at h
    rw [isNodeP_eq, if_neg h17] at hx
    simp only [Bool.and_eq_true, decide_eq_true_eq] at hx
    split at h
    · cases h
    · split at h
      · cases h
        exact hget 1 (by omega)
      · cases h
end
/-! checks of pairs -/
theorem right_mem {ps : List PairD} : ∀ {seen : List PairD}, rightFrom seen ps = true → ∀ q ∈ ps, okPair q = true := by
  induction ps with
  | nil => intro seen _ q hq; cases hq
  | cons a r ih =>
    intro seen h q hq
    unfold rightFrom at h
    simp only [Bool.and_eq_true] at h
    rcases List.mem_cons.1 hq with rfl | hq
    · exact h.1
    · exact ih h.2.2 q hq
theorem right_valid {ps : List PairD} (h : rightP ps = true) (hne : ps ≠ []) : Valid ps 0 ∧ Fair ps := by
  unfold rightP at h
  rw [Bool.and_eq_true] at h
  have hm := right_mem h.2
  refine ⟨⟨hne, fun q hq => ⟨Nat.zero_le _, ?_⟩⟩, fun q hq => ?_⟩
  · have h1 := hm q hq
    unfold okPair at h1
    simp only [Bool.and_eq_true, decide_eq_true_eq] at h1
    show (halves q.1).length ≤ 128
    rw [halves_length]
    omega
  · have h1 := hm q hq
    unfold okPair at h1
    simp only [Bool.and_eq_true, decide_eq_true_eq] at h1
    exact ⟨fun e => by rw [e] at h1; simp at h1, h1.2.2.2⟩
section
variable {K : List UInt8 → List UInt8}
theorem root_cons {ps : List PairD} (h : ps ≠ []) : rootP K ps = K (bytesP K 129 ps 0) := by
  cases ps with
  | nil => exact absurd rfl h
  | cons q r => rfl
theorem told_len (hK : ∀ s, (K s).length = 32) (f : Nat) (ps : List PairD) (d : Nat) (hv : Valid ps d) (hr : Fair ps) (hf : 129 ≤ d + f) : ∀ s ∈ toldP K f ps d, s.length ≤ 20000 := fun s hs => by
  obtain ⟨b, hfit⟩ := node_fit (K := K) hK f ps d hv hr hf
  unfold toldP at hs
  split at hs
  · rw [List.mem_singleton] at hs
    rw [hs]
    unfold bytesP
    rw [hfit.encode]
    exact hfit.short
  · cases hs
theorem told_one (f : Nat) (ps : List PairD) (d : Nat) : (toldP K f ps d).length ≤ 1 := by
  unfold toldP
  split <;> simp
theorem way_len (hK : ∀ s, (K s).length = 32) (f : Nat) (ps : List PairD) (d : Nat) (path : List UInt8) (hv : Valid ps d) (hr : Fair ps) (hf : 129 ≤ d + f) (hp : isPath path = true) (hd : d ≤ path.length) (ha : Along ps d path) :
    (wayP K f ps d path).length ≤ f ∧ ∀ s ∈ wayP K f ps d path, s.length ≤ 20000 := by
  induction f generalizing ps d with
  | zero => have := valid_le hv; omega
  | succ f ih =>
    have h1 := told_one (K := K) (f + 1) ps d
    have h2 := told_len hK (f + 1) ps d hv hr hf
    rw [way_tail, List.length_append]
    rcases step_node (K := K) hK f ps d path hv hr hf hp hd ha with ⟨_, h3⟩ | ⟨ps', d', _, h3, _, _, hv', hr', ha', h4, h5⟩
    · rw [h3]
      exact ⟨by simp; omega, fun s hs => h2 s (by simpa using hs)⟩
    · rw [h3]
      obtain ⟨h6, h7⟩ := ih ps' d' hv' hr' (by omega) h5 ha'
      refine ⟨by omega, fun s hs => ?_⟩
      rcases List.mem_append.1 hs with hs | hs
      · exact h2 s hs
      · exact h7 s hs
theorem along_zero (ps : List PairD) (path : List UInt8) : Along ps 0 path := fun _ _ => by simp
theorem way_ne (f : Nat) (ps : List PairD) (path : List UInt8) : ∃ t, wayP K (f + 1) ps 0 path = bytesP K (f + 1) ps 0 :: t := by
  rw [way_tail]
  unfold toldP
  rw [if_pos (.inl rfl)]
  exact ⟨_, rfl⟩
theorem check_way (hK : ∀ s, (K s).length = 32) {ps : List PairD} {key : List UInt8} (h : rightP ps = true) (hne : ps ≠ []) (hk : keyOk key = true) (more : List (List UInt8)) (hm : ∀ s ∈ more, s.length ≤ 65536) (hm2 : more.length ≤ 11) :
    checkP K (rootP K ps) key (wayP K 129 ps 0 (halves key) ++ more) = if more = [] then (lookupP ps (halves key), 0) else ([], 70) := by
  obtain ⟨hv, hr⟩ := right_valid h hne
  have hkl : (halves key).length ≤ 128 := by
    unfold keyOk at hk
    simp only [Bool.and_eq_true, decide_eq_true_eq] at hk
    rw [halves_length]; omega
  have hw := way_len (K := K) hK 129 ps 0 (halves key) hv hr (by omega) (isPath_halves key) (Nat.zero_le _) (along_zero _ _)
  have hh := honest (K := K) hK 129 ps 0 (halves key) hv hr (by omega) (isPath_halves key) (Nat.zero_le _) (along_zero _ _) 129 (by omega) more
  unfold topP at hh
  rw [if_pos rfl, List.drop_zero, ← root_cons (K := K) hne] at hh
  have hs : (sizesP (rootP K ps) (wayP K 129 ps 0 (halves key) ++ more) && keyOk key) = true := by
    rw [hk, Bool.and_true]
    exact sizes_append.2 ⟨fun s hs => by have := hw.2 s hs; omega, hm, by rw [root_cons (K := K) hne, hK], by omega⟩
  obtain ⟨t, ht⟩ := way_ne (K := K) 128 ps (halves key)
  have ht : wayP K 129 ps 0 (halves key) = bytesP K 129 ps 0 :: t := ht
  rw [ht] at hh hs ⊢
  rw [List.cons_append] at hh hs ⊢
  rw [check_some hs]
  unfold foundP
  rw [hh]
  cases more with
  | nil => rfl
  | cons a r => rfl
theorem check_way_none (hK : ∀ s, (K s).length = 32) {key : List UInt8} (hk : keyOk key = true) : checkP K (rootP K []) key [] = ([], 0) := by
  rw [check_none (by rw [hk, Bool.and_true]; unfold sizesP; rw [show rootP K [] = K [128] from rfl, hK]; rfl)]
  rw [if_pos (show rootP K [] = K [128] from rfl)]
end
def plainP : List PairD → List UInt8 → List UInt8 × Bool
  | [], _ => ([], false)
  | q :: r, key => if q.1 = key then (q.2, true) else plainP r key
theorem plain_lookup {ps : List PairD} (hf : Fair ps) (key : List UInt8) : plainP ps key = (lookupP ps (halves key), !(lookupP ps (halves key)).isEmpty) := by
  induction ps with
  | nil => rfl
  | cons q r ih =>
    unfold plainP lookupP
    by_cases e : q.1 = key
    · rw [if_pos e, if_pos (by unfold pth; rw [e])]
      have := (hf q List.mem_cons_self).1
      cases h : q.2 with
      | nil => exact absurd h this
      | cons a l => rfl
    · rw [if_neg e, if_neg (fun h : pth q = halves key => e (halves_inj h))]
      exact ih fun x hx => hf x (List.mem_cons_of_mem _ hx)
end Go.Proofs.YthicdhnjincflaaGreatDoor

namespace Go.Proofs.YthicdhnjincflaaGreatDoor
open Go.RowKit
theorem common_get {a b : List UInt8} {n : Nat} (h : a.take n = b.take n) (ha : n ≤ a.length) (hb : n ≤ b.length) : n ≤ common a b := by
  induction n generalizing a b with
  | zero => omega
  | succ n ih =>
    cases a with
    | nil => simp at ha
    | cons x a =>
      cases b with
      | nil => simp at hb
      | cons y b =>
        simp only [List.take_succ_cons, List.cons.injEq] at h
        have := ih h.2 (by simpa using ha) (by simpa using hb)
        simp only [common, h.1, if_pos]
        omega
theorem alike_le_sub {ps qs : List PairD} {d : Nat} (hne : qs ≠ []) (hm : ∀ x ∈ qs, x ∈ ps) : alikeP ps d ≤ alikeP qs d := by
  cases qs with
  | nil => exact absurd rfl hne
  | cons y t =>
    cases ps with
    | nil => exact absurd (hm y List.mem_cons_self) (by simp)
    | cons q r =>
      refine alike_max fun x hx => ?_
      have h1 := alike_mem (d := d) (hm y List.mem_cons_self)
      have h2 := alike_mem (d := d) (hm x hx)
      refine common_get ((take_common h1).symm.trans (take_common h2)) ?_ ?_
      · have := (common_le ((pth q).drop d) ((pth y).drop d)).2; omega
      · have := (common_le ((pth q).drop d) ((pth x).drop d)).2; omega
theorem alike_perm {ps qs : List PairD} (h : ps.Perm qs) (d : Nat) : alikeP ps d = alikeP qs d := by
  by_cases hp : ps = []
  · subst hp
    rw [List.Perm.nil_eq h]
  · have hq : qs ≠ [] := fun e => hp (by subst e; exact List.Perm.eq_nil h)
    exact Nat.le_antisymm (alike_le_sub hq fun x hx => h.mem_iff.2 hx) (alike_le_sub hp fun x hx => h.mem_iff.1 hx)
theorem having_perm {ps qs : List PairD} (h : ps.Perm qs) (d : Nat) (b : UInt8) : (havingP ps d b).Perm (havingP qs d b) := h.filter _
def Even (ps : List PairD) (d : Nat) : Prop := ∀ x ∈ ps, ∀ y ∈ ps, (pth x).take d = (pth y).take d ∧ (x.1 = y.1 → x = y)
theorem ending_mem {ps : List PairD} {d : Nat} : (∃ q ∈ ps, 2 * q.1.length = d ∧ endingP ps d = q.2) ∨ ((∀ q ∈ ps, 2 * q.1.length ≠ d) ∧ endingP ps d = []) := by
  induction ps with
  | nil => right; exact ⟨(fun q h => by cases h), rfl⟩
  | cons q r ih =>
    by_cases h : 2 * q.1.length = d
    · left; exact ⟨q, List.mem_cons_self, h, by unfold endingP; rw [if_pos h]⟩
    · have he : endingP (q :: r) d = endingP r d := by conv => lhs; unfold endingP; rw [if_neg h]
      rw [he]
      rcases ih with ⟨x, hx, h1, h2⟩ | ⟨h1, h2⟩
      · exact .inl ⟨x, List.mem_cons_of_mem _ hx, h1, h2⟩
      · refine .inr ⟨fun x hx => ?_, h2⟩
        rcases List.mem_cons.1 hx with rfl | hx
        · exact h
        · exact h1 x hx
theorem ending_one {ps : List PairD} {d : Nat} (hE : Even ps d) {x y : PairD} (hx : x ∈ ps) (hy : y ∈ ps) (h1 : 2 * x.1.length = d) (h2 : 2 * y.1.length = d) : x = y := by
  refine (hE x hx y hy).2 (halves_inj ?_)
  have h := (hE x hx y hy).1
  unfold pth at h
  rwa [List.take_of_length_le (by rw [halves_length]; omega), List.take_of_length_le (by rw [halves_length]; omega)] at h
theorem ending_perm {ps qs : List PairD} {d : Nat} (h : ps.Perm qs) (hE : Even ps d) : endingP ps d = endingP qs d := by
  rcases ending_mem (ps := ps) (d := d) with ⟨x, hx, h1, h2⟩ | ⟨h1, h2⟩
  · rcases ending_mem (ps := qs) (d := d) with ⟨y, hy, h3, h4⟩ | ⟨h3, h4⟩
    · rw [h2, h4, ending_one hE hx (h.mem_iff.2 hy) h1 h3]
    · exact absurd h1 (h3 x (h.mem_iff.1 hx))
  · rcases ending_mem (ps := qs) (d := d) with ⟨y, hy, h3, h4⟩ | ⟨h3, h4⟩
    · exact absurd h3 (h1 y (h.mem_iff.2 hy))
    · rw [h2, h4]
theorem even_ext {ps : List PairD} {d : Nat} (h : Even ps d) : Even ps (d + alikeP ps d) := fun x hx y hy => by
  refine ⟨?_, (h x hx y hy).2⟩
  refine take_split (h x hx y hy).1 ?_
  cases ps with
  | nil => cases hx
  | cons q r => exact (take_common (alike_mem (d := d) hx)).symm.trans (take_common (alike_mem (d := d) hy))
theorem even_having {ps : List PairD} {d : Nat} {b : UInt8} (h : Even ps d) : Even (havingP ps d b) (d + 1) := fun x hx y hy => by
  obtain ⟨hx1, hx2⟩ := mem_having.1 hx
  obtain ⟨hy1, hy2⟩ := mem_having.1 hy
  refine ⟨?_, (h x hx1 y hy1).2⟩
  rw [List.take_add_one, List.take_add_one, (h x hx1 y hy1).1, hx2, hy2]
section
variable {K : List UInt8 → List UInt8}
theorem node_perm (f : Nat) : ∀ {ps qs : List PairD} {d : Nat}, ps.Perm qs → Even ps d → nodeP K f ps d = nodeP K f qs d := by
  induction f with
  | zero => intro ps qs d _ _; rfl
  | succ f ih =>
    intro ps qs d h hE
    match ps, qs, h with
    | [], qs, h => rw [← List.Perm.nil_eq h]
    | [q], qs, h => rw [← List.singleton_perm.1 h |>.symm]
    | q :: q2 :: r, [], h => exact absurd (List.Perm.length_eq h) (by simp)
    | q :: q2 :: r, [x], h => exact absurd (List.Perm.length_eq h) (by simp)
    | q :: q2 :: r, x :: x2 :: t, h =>
      have ha := alike_perm h d
      have e1 : nodeP K (f + 1) (q :: q2 :: r) d = if 0 < alikeP (q :: q2 :: r) d then extI (((pth q).drop d).take (alikeP (q :: q2 :: r) d)) (refI K (nodeP K f (q :: q2 :: r) (d + alikeP (q :: q2 :: r) d)))
        else brI ((List.range 16).map fun h => match havingP (q :: q2 :: r) d (UInt8.ofNat h) with
          | [] => .none
          | x :: m => refI K (nodeP K f (x :: m) (d + 1))) (endingP (q :: q2 :: r) d) := rfl
      have e2 : nodeP K (f + 1) (x :: x2 :: t) d = if 0 < alikeP (x :: x2 :: t) d then extI (((pth x).drop d).take (alikeP (x :: x2 :: t) d)) (refI K (nodeP K f (x :: x2 :: t) (d + alikeP (x :: x2 :: t) d)))
        else brI ((List.range 16).map fun h => match havingP (x :: x2 :: t) d (UInt8.ofNat h) with
          | [] => .none
          | x :: m => refI K (nodeP K f (x :: m) (d + 1))) (endingP (x :: x2 :: t) d) := rfl
      rw [e1, e2]
      have hq : ((pth q).drop d).take (alikeP (q :: q2 :: r) d) = ((pth x).drop d).take (alikeP (q :: q2 :: r) d) := take_common (alike_mem (d := d) (h.mem_iff.2 List.mem_cons_self))
      have hn := ih h (even_ext hE)
      rw [← ha, hq, hn, ending_perm h hE]
      congr 2
      refine List.map_congr_left fun b _ => ?_
      have hh := having_perm h d (UInt8.ofNat b)
      have hEH := even_having (b := UInt8.ofNat b) hE
      cases hm : havingP (q :: q2 :: r) d (UInt8.ofNat b) with
      | nil => rw [hm] at hh; rw [← List.Perm.nil_eq hh]
      | cons y m =>
        cases hm2 : havingP (x :: x2 :: t) d (UInt8.ofNat b) with
        | nil => rw [hm, hm2] at hh; exact absurd (List.Perm.length_eq hh) (by simp)
        | cons z m2 =>
          rw [hm, hm2] at hh
          rw [hm] at hEH
          dsimp only
          rw [ih hh hEH]
theorem bytes_perm (f : Nat) {ps qs : List PairD} {d : Nat} (h : ps.Perm qs) (hE : Even ps d) : bytesP K f ps d = bytesP K f qs d := by unfold bytesP; rw [node_perm f h hE]
theorem told_perm (f : Nat) {ps qs : List PairD} {d : Nat} (h : ps.Perm qs) (hE : Even ps d) : toldP K f ps d = toldP K f qs d := by unfold toldP; rw [bytes_perm f h hE]
theorem way_perm (f : Nat) : ∀ {ps qs : List PairD} {d : Nat} (path : List UInt8), ps.Perm qs → Even ps d → wayP K f ps d path = wayP K f qs d path := by
  induction f with
  | zero => intro ps qs d _ _ _; rfl
  | succ f ih =>
    intro ps qs d path h hE
    rw [way_tail, way_tail, told_perm (f + 1) h hE]
    congr 1
    match ps, qs, h with
    | [], qs, h => rw [← List.Perm.nil_eq h]
    | [q], qs, h => rw [← List.singleton_perm.1 h |>.symm]
    | q :: q2 :: r, [], h => exact absurd (List.Perm.length_eq h) (by simp)
    | q :: q2 :: r, [x], h => exact absurd (List.Perm.length_eq h) (by simp)
    | q :: q2 :: r, x :: x2 :: t, h =>
      have ha := alike_perm h d
      unfold wayTail
      dsimp only
      have hq : ((pth q).drop d).take (alikeP (q :: q2 :: r) d) = ((pth x).drop d).take (alikeP (q :: q2 :: r) d) := take_common (alike_mem (d := d) (h.mem_iff.2 List.mem_cons_self))
      rw [← ha, hq, ih path h (even_ext hE)]
      congr 1
      cases path[d]? with
      | none => rfl
      | some b =>
        dsimp only
        have hh := having_perm h d b
        have hEH := even_having (b := b) hE
        cases hm : havingP (q :: q2 :: r) d b with
        | nil => rw [hm] at hh; rw [← List.Perm.nil_eq hh]
        | cons y m =>
          cases hm2 : havingP (x :: x2 :: t) d b with
          | nil => rw [hm, hm2] at hh; exact absurd (List.Perm.length_eq hh) (by simp)
          | cons z m2 =>
            rw [hm, hm2] at hh
            rw [hm] at hEH
            dsimp only
            rw [ih path hh hEH]
end
theorem rightFrom_iff : ∀ (ps seen : List PairD), rightFrom seen ps = true ↔ (∀ q ∈ ps, okPair q = true) ∧ (∀ q ∈ ps, ∀ x ∈ seen, x.1 ≠ q.1) ∧ ps.Pairwise fun a b => a.1 ≠ b.1
  | [], seen => by simp [rightFrom]
  | q :: r, seen => by
    have e : rightFrom seen (q :: r) = (okPair q && (!(seen.any fun x => x.1 == q.1) && rightFrom (seen ++ [q]) r)) := rfl
    rw [e, Bool.and_eq_true, Bool.and_eq_true, rightFrom_iff r (seen ++ [q]), Bool.not_eq_true', List.any_eq_false]
    constructor
    · rintro ⟨h1, h2, h3, h4, h5⟩
      refine ⟨fun x hx => ?_, fun x hx y hy => ?_, List.pairwise_cons.2 ⟨fun x hx => h4 x hx q (by simp), h5⟩⟩
      · rcases List.mem_cons.1 hx with rfl | hx
        · exact h1
        · exact h3 x hx
      · rcases List.mem_cons.1 hx with rfl | hx
        · have := h2 y hy; simpa using this
        · exact h4 x hx y (by simp [hy])
    · rintro ⟨h1, h2, h3⟩
      obtain ⟨h4, h5⟩ := List.pairwise_cons.1 h3
      refine ⟨h1 q List.mem_cons_self, fun x hx => by have := h2 q List.mem_cons_self x hx; simpa using this, fun x hx => h1 x (List.mem_cons_of_mem _ hx), fun x hx y hy => ?_, h5⟩
      rcases List.mem_append.1 hy with hy | hy
      · exact h2 x (List.mem_cons_of_mem _ hx) y hy
      · rw [List.mem_singleton.1 hy]; exact h4 x hx
theorem rightP_iff (ps : List PairD) : rightP ps = true ↔ ps.length ≤ 200 ∧ (∀ q ∈ ps, okPair q = true) ∧ ps.Pairwise fun a b => a.1 ≠ b.1 := by
  unfold rightP
  rw [Bool.and_eq_true, decide_eq_true_eq, rightFrom_iff]
  simp
theorem right_perm {ps qs : List PairD} (h : ps.Perm qs) : rightP ps = rightP qs := by
  rw [Bool.eq_iff_iff, rightP_iff, rightP_iff, h.length_eq, List.Perm.pairwise_iff (fun {a b} hab e => hab e.symm) h]
  have : (∀ q ∈ ps, okPair q = true) ↔ ∀ q ∈ qs, okPair q = true := ⟨fun h1 q hq => h1 q (h.mem_iff.2 hq), fun h1 q hq => h1 q (h.mem_iff.1 hq)⟩
  rw [this]
theorem sole_of {ps : List PairD} (h : ps.Pairwise fun a b => a.1 ≠ b.1) : ∀ x ∈ ps, ∀ y ∈ ps, x.1 = y.1 → x = y := by
  induction ps with
  | nil => intro x hx; cases hx
  | cons q r ih =>
    obtain ⟨h1, h2⟩ := List.pairwise_cons.1 h
    intro x hx y hy e
    rcases List.mem_cons.1 hx with hx2 | hx2
    · rcases List.mem_cons.1 hy with hy2 | hy2
      · rw [hx2, hy2]
      · exact absurd (hx2 ▸ e) (h1 y hy2)
    · rcases List.mem_cons.1 hy with hy2 | hy2
      · exact absurd (hy2 ▸ e.symm) (h1 x hx2)
      · exact ih h2 x hx2 y hy2 e
theorem right_even {ps : List PairD} (h : rightP ps = true) : Even ps 0 := fun x hx y hy => ⟨by simp, sole_of ((rightP_iff ps).1 h).2.2 x hx y hy⟩
end Go.Proofs.YthicdhnjincflaaGreatDoor

namespace Go.Proofs.YthicdhnjincflaaGreatDoor
open Go.RowKit
def Asc (qs : List PairD) : Prop := qs.Pairwise fun a b => Op.bytesLess (pth b) (pth a) = false
theorem Asc.filter {qs : List PairD} (h : Asc qs) (p : PairD → Bool) : Asc (qs.filter p) := List.Pairwise.filter p h
theorem less_self (a : List UInt8) : Op.bytesLess a a = false := by
  induction a with
  | nil => rfl
  | cons x a ih => simp [Op.bytesLess, ih]
theorem common_between {a b c : List UInt8} (h1 : Op.bytesLess b a = false) (h2 : Op.bytesLess c b = false) : common a c ≤ common a b := by
  induction a generalizing b c with
  | nil => simp [common]
  | cons x a ih =>
    cases c with
    | nil => simp [common]
    | cons z c =>
      by_cases hxz : x = z
      · subst hxz
        cases b with
        | nil => simp [Op.bytesLess] at h1
        | cons y b =>
          simp only [Op.bytesLess, Bool.or_eq_false_iff, Bool.and_eq_false_iff, decide_eq_false_iff_not, beq_eq_false_iff_ne] at h1 h2
          obtain ⟨h3, h4⟩ := h1
          obtain ⟨h5, h6⟩ := h2
          have hxy : x = y := UInt8.le_antisymm (UInt8.not_lt.1 h3) (UInt8.not_lt.1 h5)
          subst hxy
          have := ih (by rcases h4 with h4 | h4; · exact absurd rfl h4
                         · exact h4) (by rcases h6 with h6 | h6; · exact absurd rfl h6
                                         · exact h6)
          simp only [common, if_pos]
          omega
      · simp [common, hxz]
theorem less_drop {a b : List UInt8} {d : Nat} (h : a.take d = b.take d) : Op.bytesLess (a.drop d) (b.drop d) = Op.bytesLess a b := by
  induction d generalizing a b with
  | zero => simp
  | succ d ih =>
    cases a with
    | nil =>
      cases b with
      | nil => rfl
      | cons y b => simp at h
    | cons x a =>
      cases b with
      | nil => simp at h
      | cons y b =>
        simp only [List.take_succ_cons, List.cons.injEq] at h
        obtain ⟨rfl, h⟩ := h
        simp only [List.drop_succ_cons, Op.bytesLess]
        rw [ih h]
        simp
def rankP (d : Nat) (q : PairD) : Nat := match (pth q)[d]? with | none => 0 | some h => h.toNat + 1
theorem rank_le {d : Nat} {a b : PairD} (h : Op.bytesLess (pth b) (pth a) = false) (ht : (pth a).take d = (pth b).take d) : rankP d a ≤ rankP d b := by
  rw [← less_drop ht.symm] at h
  have ga : (pth a)[d]? = ((pth a).drop d)[0]? := by rw [List.getElem?_drop, Nat.add_zero]
  have gb : (pth b)[d]? = ((pth b).drop d)[0]? := by rw [List.getElem?_drop, Nat.add_zero]
  unfold rankP
  rw [ga, gb]
  cases ha : (pth a).drop d with
  | nil => simp
  | cons x t =>
    cases hb : (pth b).drop d with
    | nil => rw [ha, hb] at h; simp [Op.bytesLess] at h
    | cons y u =>
      rw [ha, hb] at h
      simp only [Op.bytesLess, Bool.or_eq_false_iff, decide_eq_false_iff_not] at h
      have := UInt8.not_lt.1 h.1
      simp only [List.getElem?_cons_zero]
      have := UInt8.le_iff_toNat_le.1 this
      omega
theorem split_rank (κ : PairD → Nat) (n : Nat) : ∀ {qs : List PairD}, qs.Pairwise (fun a b => κ a ≤ κ b) → qs.filter (fun q => decide (κ q < n + 1)) = qs.filter (fun q => decide (κ q < n)) ++ qs.filter (fun q => decide (κ q = n))
  | [], _ => rfl
  | q :: r, h => by
    obtain ⟨h1, h2⟩ := List.pairwise_cons.1 h
    have ih := split_rank κ n h2
    simp only [List.filter_cons]
    by_cases hl : κ q < n
    · rw [if_pos (by simp; omega), if_pos (by simp; omega), if_neg (by simp; omega), ih]; rfl
    · by_cases he : κ q = n
      · have hn : r.filter (fun q => decide (κ q < n)) = [] := List.filter_eq_nil_iff.2 fun x hx => by have := h1 x hx; simp; omega
        rw [if_pos (by simp; omega), if_neg (by simp; omega), if_pos (by simp; omega), ih, hn]; rfl
      · have hn : r.filter (fun q => decide (κ q < n)) = [] := List.filter_eq_nil_iff.2 fun x hx => by have := h1 x hx; simp; omega
        have hn2 : r.filter (fun q => decide (κ q = n)) = [] := List.filter_eq_nil_iff.2 fun x hx => by have := h1 x hx; simp; omega
        rw [if_neg (by simp; omega), if_neg (by simp; omega), if_neg (by simp; omega), ih, hn, hn2]
def endsP (qs : List PairD) (d : Nat) : List PairD := qs.filter fun q => decide (rankP d q = 0)
theorem having_rank (qs : List PairD) (d h : Nat) (hh : h < 256) : qs.filter (fun q => decide (rankP d q = h + 1)) = havingP qs d (UInt8.ofNat h) := by
  unfold havingP
  refine List.filter_congr fun q _ => ?_
  unfold rankP
  cases (pth q)[d]? with
  | none => simp
  | some b =>
    rw [Bool.eq_iff_iff, decide_eq_true_eq, beq_iff_eq]
    constructor
    · intro e
      have : b.toNat = h := by simpa using e
      rw [← this, UInt8.ofNat_toNat]
    · intro e
      have e := Option.some.inj e
      rw [e]
      show (UInt8.ofNat h).toNat + 1 = h + 1
      rw [UInt8.toNat_ofNat']
      omega
theorem asc_split {qs : List PairD} {d : Nat} (h : Asc qs) (hE : Even qs d) (k : Nat) (hk : k ≤ 16) : qs.filter (fun q => decide (rankP d q < k + 1)) = endsP qs d ++ (List.range k).flatMap fun h => havingP qs d (UInt8.ofNat h) := by
  have hp : qs.Pairwise (fun a b => rankP d a ≤ rankP d b) := List.Pairwise.imp_of_mem (fun {a b} ha hb hab => rank_le hab (hE a ha b hb).1) h
  induction k with
  | zero =>
    rw [split_rank _ 0 hp]
    have : qs.filter (fun q => decide (rankP d q < 0)) = [] := List.filter_eq_nil_iff.2 fun x _ => by simp
    rw [this]
    simp [endsP]
  | succ k ih =>
    rw [split_rank _ (k + 1) hp, ih (by omega), having_rank qs d k (by omega), List.range_succ, List.flatMap_append]
    simp
theorem asc_parts {qs : List PairD} {d : Nat} (h : Asc qs) (hE : Even qs d) : qs = endsP qs d ++ (List.range 16).flatMap fun h => havingP qs d (UInt8.ofNat h) := by
  rw [← asc_split h hE 16 (Nat.le_refl _)]
  refine (List.filter_eq_self.2 fun q _ => ?_).symm
  unfold rankP
  cases hq : (pth q)[d]? with
  | none => simp
  | some b =>
    have hp := isPath_pth q
    unfold isPath at hp
    rw [List.all_eq_true] at hp
    have := hp b (List.mem_of_getElem? hq)
    simp at this ⊢
    omega
theorem asc_alike {q : PairD} {r : List PairD} {d : Nat} (h : Asc (q :: r)) (hE : Even (q :: r) d) : alikeP (q :: r) d = common ((pth q).drop d) ((pth ((q :: r).getLast (by simp))).drop d) := by
  have hl := List.getLast_mem (l := q :: r) (by simp)
  refine Nat.le_antisymm (alike_mem hl) (alike_max fun x hx => ?_)
  have hE2 := fun a b ha hb => (hE a ha b hb).1
  refine common_between ?_ ?_
  · rw [less_drop (hE2 x q hx List.mem_cons_self)]
    rcases List.mem_cons.1 hx with rfl | hx
    · exact less_self _
    · exact (List.pairwise_cons.1 h).1 x hx
  · rw [less_drop (hE2 _ x hl hx)]
    by_cases e : x = (q :: r).getLast (by simp)
    · rw [← e]; exact less_self _
    · have hs : q :: r = (q :: r).dropLast ++ [(q :: r).getLast (by simp)] := (List.dropLast_concat_getLast (by simp)).symm
      have hx2 : x ∈ (q :: r).dropLast := by
        rw [hs] at hx
        rcases List.mem_append.1 hx with hx | hx
        · exact hx
        · exact absurd (List.mem_singleton.1 hx) e
      have hp : Asc ((q :: r).dropLast ++ [(q :: r).getLast (by simp)]) := by rw [← hs]; exact h
      exact (List.pairwise_append.1 hp).2.2 x hx2 _ (by simp)
theorem ends_le {qs : List PairD} {d : Nat} (hE : Even qs d) (hv : ∀ q ∈ qs, d ≤ (pth q).length) (hs : qs.Pairwise fun a b => a.1 ≠ b.1) : (endsP qs d = [] ∧ endingP qs d = []) ∨ ∃ q, endsP qs d = [q] ∧ endingP qs d = q.2 := by
  have hr : ∀ q ∈ endsP qs d, q ∈ qs ∧ 2 * q.1.length = d := fun q hq => by
    obtain ⟨h1, h2⟩ := List.mem_filter.1 hq
    refine ⟨h1, ?_⟩
    have h3 : rankP d q = 0 := by simpa using h2
    unfold rankP at h3
    cases h4 : (pth q)[d]? with
    | some b => rw [h4] at h3; simp at h3
    | none =>
      have h5 := List.getElem?_eq_none_iff.1 h4
      have h6 := hv q h1
      unfold pth at h5 h6
      rw [halves_length] at h5 h6
      omega
  have hs2 : (endsP qs d).Pairwise fun a b => a.1 ≠ b.1 := List.Pairwise.filter _ hs
  match he : endsP qs d with
  | [] =>
    left
    refine ⟨rfl, ?_⟩
    rcases ending_mem (ps := qs) (d := d) with ⟨x, hx, h1, h2⟩ | ⟨_, h2⟩
    · exfalso
      have : x ∈ endsP qs d := List.mem_filter.2 ⟨hx, by
        unfold rankP pth
        rw [List.getElem?_eq_none_iff.2 (by rw [halves_length]; omega)]
        rfl⟩
      rw [he] at this
      cases this
    · exact h2
  | [q] =>
    right
    refine ⟨q, rfl, ?_⟩
    obtain ⟨hq1, hq2⟩ := hr q (by rw [he]; simp)
    rcases ending_mem (ps := qs) (d := d) with ⟨x, hx, h1, h2⟩ | ⟨h1, _⟩
    · rw [h2, ending_one hE hx hq1 h1 hq2]
    · exact absurd hq2 (h1 q hq1)
  | a :: b :: t =>
    exfalso
    obtain ⟨ha1, ha2⟩ := hr a (by rw [he]; simp)
    obtain ⟨hb1, hb2⟩ := hr b (by rw [he]; simp)
    have hab := ending_one hE ha1 hb1 ha2 hb2
    rw [he] at hs2
    exact (List.pairwise_cons.1 hs2).1 b (by simp) (by rw [hab])
def kidsP (ps : List PairD) (d : Nat) : List (List UInt8 × List PairD × Nat) := match ps with
  | [] => []
  | [_] => []
  | q :: q2 :: r => if 0 < alikeP (q :: q2 :: r) d then [(((pth q).drop d).take (alikeP (q :: q2 :: r) d), q :: q2 :: r, d + alikeP (q :: q2 :: r) d)]
    else (List.range 16).filterMap fun h => match havingP (q :: q2 :: r) d (UInt8.ofNat h) with
      | [] => none
      | x :: m => some ([UInt8.ofNat h], x :: m, d + 1)
theorem flatMap_filterMap {α β γ : Type} (l : List α) (f : α → Option β) (g : β → List γ) : (l.filterMap f).flatMap g = l.flatMap fun a => match f a with | none => [] | some b => g b := by
  induction l with
  | nil => rfl
  | cons a t ih =>
    rw [List.filterMap_cons, List.flatMap_cons, ← ih]
    cases f a with
    | none => rfl
    | some b => rfl
end Go.Proofs.YthicdhnjincflaaGreatDoor

namespace Go.Proofs.YthicdhnjincflaaGreatDoor
open Go.RowKit
theorem kids_spec {ps : List PairD} {d : Nat} {k : List UInt8 × List PairD × Nat} (hv : Valid ps d) (h : k ∈ kidsP ps d) : k.2.2 = d + k.1.length ∧ k.1 ≠ [] ∧ k.1.length ≤ 128 ∧ Valid k.2.1 k.2.2 ∧ ∀ q ∈ k.2.1, q ∈ ps := by
  match ps, hv, h with
  | [], _, h => cases h
  | [q], _, h => cases h
  | q :: q2 :: r, hv, h =>
    unfold kidsP at h
    dsimp only at h
    split at h
    · rename_i hn
      rw [List.mem_singleton] at h
      subst h
      have h1 := alike_len (d := d) (List.mem_cons_self (a := q) (l := q2 :: r))
      have h2 := (hv.2 q List.mem_cons_self).2
      have hl : (((pth q).drop d).take (alikeP (q :: q2 :: r) d)).length = alikeP (q :: q2 :: r) d := by rw [List.length_take, List.length_drop]; omega
      refine ⟨by dsimp only; rw [hl], fun e => ?_, by dsimp only; rw [hl]; omega, valid_ext hv, fun _ h => h⟩
      have := congrArg List.length e
      dsimp only at this
      rw [hl] at this
      simp at this
      omega
    · obtain ⟨b, hb, h2⟩ := List.mem_filterMap.1 h
      cases hh : havingP (q :: q2 :: r) d (UInt8.ofNat b) with
      | nil => rw [hh] at h2; cases h2
      | cons x m =>
        rw [hh] at h2
        cases h2
        exact ⟨rfl, by simp, by simp, valid_having hv hh, fun y hy => (mem_having.1 (hh ▸ hy : y ∈ havingP (q :: q2 :: r) d (UInt8.ofNat b))).1⟩
theorem kids_len (ps : List PairD) (d : Nat) : (kidsP ps d).length ≤ 16 := by
  match ps with
  | [] => exact Nat.zero_le _
  | [q] => exact Nat.zero_le _
  | q :: q2 :: r =>
    unfold kidsP
    dsimp only
    split
    · simp
    · exact Nat.le_trans (List.length_filterMap_le _ _) (by simp)
section
variable {K : List UInt8 → List UInt8}
theorem way_none {f : Nat} {ps : List PairD} {d : Nat} {path : List UInt8} (hp : isPath path = true) (h : ∀ k ∈ kidsP ps d, ¬ k.1 <+: path.drop d) : wayTail K f ps d path = [] := by
  match ps, h with
  | [], _ => rfl
  | [q], _ => rfl
  | q :: q2 :: r, h =>
    unfold kidsP at h
    unfold wayTail
    dsimp only at h ⊢
    split
    · rename_i hn
      rw [if_pos hn] at h
      have h1 := h _ (List.mem_singleton.2 rfl)
      dsimp only at h1
      rw [if_pos]
      by_cases h2 : path.length < d + alikeP (q :: q2 :: r) d
      · exact .inl h2
      · refine .inr fun e => h1 ?_
        rw [← e]
        exact List.take_prefix _ _
    · rename_i hn
      rw [if_neg hn] at h
      cases hg : path[d]? with
      | none => rfl
      | some b =>
        cases hh : havingP (q :: q2 :: r) d b with
        | nil => simp only [hh]
        | cons x m =>
          have hb := isPath_at hp hg
          have e : UInt8.ofNat b.toNat = b := by simp
          obtain ⟨h4, h5⟩ := List.getElem?_eq_some_iff.1 hg
          refine absurd ?_ (h ([b], x :: m, d + 1) (List.mem_filterMap.2 ⟨b.toNat, List.mem_range.2 (by omega), by rw [e, hh]⟩))
          dsimp only
          rw [List.drop_eq_getElem_cons h4, h5]
          exact ⟨_, rfl⟩
theorem way_kid {f : Nat} {ps : List PairD} {d : Nat} {path : List UInt8} {k : List UInt8 × List PairD × Nat} (hk : k ∈ kidsP ps d) (h : k.1 <+: path.drop d) : wayTail K f ps d path = wayP K f k.2.1 k.2.2 path := by
  match ps, hk with
  | [], hk => cases hk
  | [q], hk => cases hk
  | q :: q2 :: r, hk =>
    unfold kidsP at hk
    unfold wayTail
    dsimp only at hk ⊢
    split at hk
    · rename_i hn
      rw [List.mem_singleton] at hk
      subst hk
      dsimp only at h ⊢
      rw [if_pos hn]
      have h1 := alike_len (d := d) (List.mem_cons_self (a := q) (l := q2 :: r))
      have hl : (((pth q).drop d).take (alikeP (q :: q2 :: r) d)).length = alikeP (q :: q2 :: r) d := by rw [List.length_take, List.length_drop]; omega
      have h2 := h.length_le
      rw [hl, List.length_drop] at h2
      have h3 := List.prefix_iff_eq_take.1 h
      rw [hl] at h3
      rw [if_neg]
      rintro (h4 | h4)
      · omega
      · exact h4 h3.symm
    · rename_i hn
      rw [if_neg hn]
      obtain ⟨b, hb, h2⟩ := List.mem_filterMap.1 hk
      cases hh : havingP (q :: q2 :: r) d (UInt8.ofNat b) with
      | nil => rw [hh] at h2; cases h2
      | cons x m =>
        rw [hh] at h2
        cases h2
        dsimp only at h ⊢
        obtain ⟨t, ht⟩ := h
        have hg : path[d]? = some (UInt8.ofNat b) := by
          rw [← Nat.add_zero d, ← List.getElem?_drop, ← ht]
          rfl
        simp only [hg, hh]
theorem fair_right {ps : List PairD} (h : rightP ps = true) : Fair ps := by
  cases ps with
  | nil => exact fun q hq => by cases hq
  | cons q r => exact (right_valid h (by simp)).2
theorem Clash.mono {l m : List (List UInt8)} (h : Clash K l) (hm : ∀ s ∈ l, s ∈ m) : Clash K m := by
  obtain ⟨a, ha, b, hb, h⟩ := h
  exact ⟨a, hm a ha, b, hm b hb, h⟩
end
end Go.Proofs.YthicdhnjincflaaGreatDoor

namespace Go.Proofs.YthicdhnjincflaaGreatDoor
open Go.RowKit
def fewP (n : Nat) (ps : List PairD) : List PairD := (ps.take n).map fun q => (q.1, q.2.take 100)
theorem fewP_len (n : Nat) (ps : List PairD) : (fewP n ps).length ≤ n := by unfold fewP; rw [List.length_map, List.length_take]; omega
theorem fewP_take {ps : List PairD} {n k : Nat} {q : PairD} (hs : ps[k]? = some q) (hk : k < n) : (fewP n ps).take (k + 1) = (fewP n ps).take k ++ [(q.1, q.2.take 100)] := by
  rw [List.take_add_one]
  congr 1
  unfold fewP
  rw [List.getElem?_map, List.getElem?_take, if_pos hk, hs]
  rfl
end Go.Proofs.YthicdhnjincflaaGreatDoor
