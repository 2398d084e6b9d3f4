/- Plain laws of paths and their forms. -/
import Derived.Test.YthicdhnjincflaaDoorPlain
import Derived.Lib.IndexMore
namespace Go.Proofs.YthicdhnjincflaaDoor
open Go.RowKit

theorem hiN_le (b : UInt8) : (hiN b).toNat ≤ 15 := by
  have h := u8_hi b
  have := b.toNat_lt
  omega
theorem loN_eq (b : UInt8) : (loN b).toNat = b.toNat % 16 := by
  have h := u8_lo b
  have hlt := b.toNat_lt
  have h2 := Go.u8_and15 (x := (b.toNat : Int)) (by omega) (by omega)
  have h3 := h.symm.trans h2
  omega
theorem hiN_eq (b : UInt8) : (hiN b).toNat = b.toNat / 16 := by
  have h := u8_hi b
  omega
theorem joinN_eq (a b : UInt8) (ha : a.toNat ≤ 15) (hb : b.toNat ≤ 15) : (joinN a b).toNat = a.toNat * 16 + b.toNat := by
  unfold joinN
  rw [UInt8.toNat_or, UInt8.toNat_shiftLeft]
  have : (4 : UInt8).toNat % 8 = 4 := rfl
  rw [this, Nat.mod_eq_of_lt (by rw [Nat.shiftLeft_eq]; omega)]
  rw [← Nat.shiftLeft_add_eq_or_of_lt (by omega : b.toNat < 2 ^ 4), Nat.shiftLeft_eq]
theorem join_halves (b : UInt8) : joinN (hiN b) (loN b) = b := by
  apply UInt8.toNat_inj.1
  rw [joinN_eq _ _ (hiN_le b) (by rw [loN_eq]; omega), hiN_eq, loN_eq]
  omega
theorem hi_join (a b : UInt8) (ha : a.toNat ≤ 15) (hb : b.toNat ≤ 15) : hiN (joinN a b) = a := by
  apply UInt8.toNat_inj.1
  rw [hiN_eq, joinN_eq a b ha hb]; omega
theorem lo_join (a b : UInt8) (ha : a.toNat ≤ 15) (hb : b.toNat ≤ 15) : loN (joinN a b) = b := by
  apply UInt8.toNat_inj.1
  rw [loN_eq, joinN_eq a b ha hb]; omega
theorem isPath_cons (a : UInt8) (l : List UInt8) : isPath (a :: l) = (decide (a.toNat ≤ 15) && isPath l) := by simp [isPath]
theorem halves_cons (b : UInt8) (l : List UInt8) : halves (b :: l) = hiN b :: loN b :: halves l := by
  show halves ([b] ++ l) = _
  rw [halves_append, halves_one]; rfl
theorem isPath_halves (l : List UInt8) : isPath (halves l) = true := by
  induction l with
  | nil => rfl
  | cons b l ih =>
    rw [halves_cons, isPath_cons, isPath_cons, ih]
    have h1 := hiN_le b
    have h2 : (loN b).toNat ≤ 15 := by rw [loN_eq]; omega
    simp [h1, h2]
theorem pairUp_halves (l : List UInt8) : pairUp (halves l) = l := by
  induction l with
  | nil => rfl
  | cons b l ih => rw [halves_cons, pairUp, ih, join_halves]
theorem halves_pairUp (L : List UInt8) (h : L.length % 2 = 0) (hp : isPath L = true) : halves (pairUp L) = L := by
  induction L using pairUp.induct with
  | case1 a b r ih =>
    rw [isPath_cons, isPath_cons] at hp
    simp only [Bool.and_eq_true, decide_eq_true_eq] at hp
    rw [pairUp, halves_cons, hi_join a b hp.1 hp.2.1, lo_join a b hp.1 hp.2.1, ih (by simp at h; omega) hp.2.2]
  | case2 l hl =>
    match l, hl with
    | [], _ => rfl
    | [a], _ => simp at h
    | a :: b :: r, hl => exact (hl a b r rfl).elim
/-- a path's form is read as it was -/
theorem read_form_any (p : List UInt8) (leaf : Bool) (h : isPath p = true) : read (form p leaf).1 = (p, leaf, 0) := by
  unfold form
  rw [if_pos h]
  show read (pairUp (formHalves p leaf)) = _
  unfold formHalves
  by_cases ho : p.length % 2 = 1
  · rw [if_pos ho]
    have hp : isPath ((if leaf then 3 else 1) :: p) = true := by rw [isPath_cons, h]; cases leaf <;> rfl
    have hh := halves_pairUp _ (by simp only [List.length_cons]; omega) hp
    unfold read
    rw [hh]
    cases p with
    | nil => simp at ho
    | cons a r => cases leaf <;> rfl
  · rw [if_neg ho]
    have hp : isPath ((if leaf then 2 else 0) :: 0 :: p) = true := by rw [isPath_cons, isPath_cons, h]; cases leaf <;> rfl
    have hh := halves_pairUp _ (by simp only [List.length_cons]; omega) hp
    unfold read
    rw [hh]
    cases leaf <;> rfl
theorem form_length (p : List UInt8) (leaf : Bool) : (form p leaf).1.length ≤ p.length / 2 + 1 := by
  unfold form
  split
  · show (pairUp (formHalves p leaf)).length ≤ _
    rw [pairUp_length]
    unfold formHalves
    split <;> simp only [List.length_cons] <;> omega
  · simp
theorem form_ok (p : List UInt8) (leaf : Bool) (h : isPath p = true) : (form p leaf).2 = 0 := by unfold form; rw [if_pos h]
theorem isPath_append (a b : List UInt8) : isPath (a ++ b) = (isPath a && isPath b) := by simp [isPath]
theorem isPath_drop {l : List UInt8} (h : isPath l = true) (n : Nat) : isPath (l.drop n) = true := by
  have h2 := isPath_append (l.take n) (l.drop n)
  rw [List.take_append_drop, h] at h2
  exact (Bool.and_eq_true_iff.1 h2.symm).2
theorem isPath_take {l : List UInt8} (h : isPath l = true) (n : Nat) : isPath (l.take n) = true := by
  have h2 := isPath_append (l.take n) (l.drop n)
  rw [List.take_append_drop, h] at h2
  exact (Bool.and_eq_true_iff.1 h2.symm).1
theorem halves_inj {a b : List UInt8} (h : halves a = halves b) : a = b := by rw [← pairUp_halves a, h, pairUp_halves]
theorem isPath_at {l : List UInt8} (h : isPath l = true) {i : Nat} {x : UInt8} (hx : l[i]? = some x) : x.toNat ≤ 15 := by
  unfold isPath at h
  rw [List.all_eq_true] at h
  simpa using h x (List.mem_of_getElem? hx)
end Go.Proofs.YthicdhnjincflaaDoor
/- Plain tries: which pairs are right, the node of pairs at a depth, its bytes, what is told of a way and of all nodes; what nodes prove. K: the digest of bytes. -/
namespace Go.Proofs.YthicdhnjincflaaDoor
open Go.RowKit

/-- a pair: its key, its value -/
abbrev PairD := List UInt8 × List UInt8
def pth (q : PairD) : List UInt8 := halves q.1
/-- which pairs are right -/
def okPair (q : PairD) : Bool := !q.1.isEmpty && (decide (q.1.length ≤ 64) && (!q.2.isEmpty && decide (q.2.length ≤ 1000)))
def rightFrom : List PairD → List PairD → Bool
  | _, [] => true
  | seen, q :: r => okPair q && (!(seen.any fun x => x.1 == q.1) && rightFrom (seen ++ [q]) r)
def rightP (ps : List PairD) : Bool := decide (ps.length ≤ 200) && rightFrom [] ps
/-- how much paths have alike, behind a depth -/
def alikeP (ps : List PairD) (d : Nat) : Nat := match ps with
  | [] => 0
  | q :: r => r.foldl (fun n x => min n (common ((pth q).drop d) ((pth x).drop d))) ((pth q).drop d).length
/-- the pairs whose paths have a half byte at a depth -/
def havingP (ps : List PairD) (d : Nat) (h : UInt8) : List PairD := ps.filter fun q => (pth q)[d]? == some h
/-- the value of the pair whose path ends at a depth -/
def endingP : List PairD → Nat → List UInt8
  | [], _ => []
  | q :: r, d => if 2 * q.1.length = d then q.2 else endingP r d
def txtI (t : List UInt8) : Item := .mk false t []
def lstI (l : List Item) : Item := .mk true [] l
def formI (p : List UInt8) (leaf : Bool) : Item := txtI (form p leaf).1
def leafI (p v : List UInt8) : Item := lstI [formI p true, txtI v]
def extI (p : List UInt8) (x : Item) : Item := lstI [formI p false, x]
def brI (cs : List Item) (v : List UInt8) : Item := lstI (cs ++ [txtI v])
section
variable (K : List UInt8 → List UInt8)
/-- how a node is referred to -/
def refI (x : Item) : Item := if (encode x).1.length < 32 then x else txtI (K (encode x).1)
/-- the node of pairs at a depth -/
def nodeP : Nat → List PairD → Nat → Item
  | 0, _, _ => .none
  | f + 1, ps, d => match ps with
    | [] => .none
    | [q] => leafI ((pth q).drop d) q.2
    | q :: q2 :: r => if 0 < alikeP (q :: q2 :: r) d then extI (((pth q).drop d).take (alikeP (q :: q2 :: r) d)) (refI K (nodeP f (q :: q2 :: r) (d + alikeP (q :: q2 :: r) d)))
      else brI ((List.range 16).map fun h => match havingP (q :: q2 :: r) d (UInt8.ofNat h) with
        | [] => .none
        | x :: m => refI K (nodeP f (x :: m) (d + 1))) (endingP (q :: q2 :: r) d)
def bytesP (f : Nat) (ps : List PairD) (d : Nat) : List UInt8 := (encode (nodeP K f ps d)).1
def rootP (ps : List PairD) : List UInt8 := match ps with
  | [] => K [128]
  | _ => K (bytesP K 129 ps 0)
def toldP (f : Nat) (ps : List PairD) (d : Nat) : List (List UInt8) := if d = 0 ∨ 32 ≤ (bytesP K f ps d).length then [bytesP K f ps d] else []
/-- what of a path's way is told -/
def wayP : Nat → List PairD → Nat → List UInt8 → List (List UInt8)
  | 0, _, _, _ => []
  | f + 1, ps, d, path => toldP K (f + 1) ps d ++ match ps with
    | [] => []
    | [_] => []
    | q :: q2 :: r => if 0 < alikeP (q :: q2 :: r) d then
        (if path.length < d + alikeP (q :: q2 :: r) d ∨ (path.drop d).take (alikeP (q :: q2 :: r) d) ≠ ((pth q).drop d).take (alikeP (q :: q2 :: r) d) then [] else wayP f (q :: q2 :: r) (d + alikeP (q :: q2 :: r) d) path)
      else match path[d]? with
        | none => []
        | some h => match havingP (q :: q2 :: r) d h with
          | [] => []
          | x :: m => wayP f (x :: m) (d + 1) path
/-- the nodes that are told -/
def nodesP : Nat → List PairD → Nat → List (List UInt8)
  | 0, _, _ => []
  | f + 1, ps, d => toldP K (f + 1) ps d ++ match ps with
    | [] => []
    | [_] => []
    | q :: q2 :: r => if 0 < alikeP (q :: q2 :: r) d then nodesP f (q :: q2 :: r) (d + alikeP (q :: q2 :: r) d)
      else (List.range 16).flatMap fun h => match havingP (q :: q2 :: r) d (UInt8.ofNat h) with
        | [] => []
        | x :: m => nodesP f (x :: m) (d + 1)
end
/-- are the pairs at a depth some that a node may have? -/
def Valid (ps : List PairD) (d : Nat) : Prop := ps ≠ [] ∧ ∀ q ∈ ps, d ≤ (pth q).length ∧ (pth q).length ≤ 128
theorem alike_fold (p : List UInt8) (d : Nat) : ∀ (r : List PairD) (n : Nat), r.foldl (fun n x => min n (common p ((pth x).drop d))) n ≤ n ∧ ∀ x ∈ r, r.foldl (fun n x => min n (common p ((pth x).drop d))) n ≤ common p ((pth x).drop d)
  | [], n => ⟨Nat.le_refl _, fun x h => by cases h⟩
  | y :: r, n => by
    obtain ⟨h1, h2⟩ := alike_fold p d r (min n (common p ((pth y).drop d)))
    simp only [List.foldl_cons]
    refine ⟨by omega, fun x hx => ?_⟩
    rcases List.mem_cons.1 hx with rfl | hx
    · omega
    · exact h2 x hx
theorem alike_ge (p : List UInt8) (d k : Nat) : ∀ (r : List PairD) (n : Nat), k ≤ n → (∀ x ∈ r, k ≤ common p ((pth x).drop d)) → k ≤ r.foldl (fun n x => min n (common p ((pth x).drop d))) n
  | [], n, h, _ => h
  | y :: r, n, h, h2 => by
    simp only [List.foldl_cons]
    exact alike_ge p d k r _ (by have := h2 y List.mem_cons_self; omega) (fun x hx => h2 x (List.mem_cons_of_mem _ hx))
theorem common_self (l : List UInt8) : common l l = l.length := by
  induction l with
  | nil => rfl
  | cons a l ih => simp [common, ih]
/-- what paths have alike, the first one has with each -/
theorem alike_mem {q : PairD} {r : List PairD} {d : Nat} {x : PairD} (hx : x ∈ q :: r) : alikeP (q :: r) d ≤ common ((pth q).drop d) ((pth x).drop d) := by
  obtain ⟨h1, h2⟩ := alike_fold ((pth q).drop d) d r ((pth q).drop d).length
  rcases List.mem_cons.1 hx with rfl | hx
  · rw [common_self]; exact h1
  · exact h2 x hx
theorem alike_len {ps : List PairD} {d : Nat} {x : PairD} (hx : x ∈ ps) : alikeP ps d ≤ (pth x).length - d := by
  cases ps with
  | nil => cases hx
  | cons q r =>
    have h1 := alike_mem (d := d) hx
    have h2 := (common_le ((pth q).drop d) ((pth x).drop d)).2
    rw [List.length_drop] at h2
    omega
theorem alike_max {q : PairD} {r : List PairD} {d k : Nat} (h : ∀ x ∈ q :: r, k ≤ common ((pth q).drop d) ((pth x).drop d)) : k ≤ alikeP (q :: r) d := by
  refine alike_ge _ _ _ _ _ ?_ (fun x hx => h x (List.mem_cons_of_mem _ hx))
  have := h q List.mem_cons_self
  rwa [common_self] at this
theorem valid_ext {ps : List PairD} {d : Nat} (h : Valid ps d) : Valid ps (d + alikeP ps d) :=
  ⟨h.1, fun q hq => by
    have h1 := h.2 q hq
    have h2 := alike_len (d := d) hq
    omega⟩
theorem mem_having {ps : List PairD} {d : Nat} {h : UInt8} {q : PairD} : q ∈ havingP ps d h ↔ q ∈ ps ∧ (pth q)[d]? = some h := by
  unfold havingP
  rw [List.mem_filter, beq_iff_eq]
theorem valid_having {ps : List PairD} {d : Nat} {h : UInt8} {x : PairD} {m : List PairD} (hv : Valid ps d) (he : havingP ps d h = x :: m) : Valid (x :: m) (d + 1) :=
  ⟨by simp, fun q hq => by
    rw [← he] at hq
    obtain ⟨h1, h2⟩ := mem_having.1 hq
    have h3 := (List.getElem?_eq_some_iff.1 h2).1
    exact ⟨h3, (hv.2 q h1).2⟩⟩
theorem valid_le {ps : List PairD} {d : Nat} (h : Valid ps d) : d ≤ 128 := by
  obtain ⟨h1, h2⟩ := h
  cases ps with
  | nil => exact absurd rfl h1
  | cons q r => have := h2 q List.mem_cons_self; omega
theorem common_drop (l r : List UInt8) (k : Nat) (h : k ≤ common l r) : common (l.drop k) (r.drop k) = common l r - k := by
  induction k generalizing l r with
  | zero => simp
  | succ k ih =>
    cases l with
    | nil => simp [common] at h
    | cons a l =>
      cases r with
      | nil => simp [common] at h
      | cons b r =>
        have hc : common (a :: l) (b :: r) = if a = b then common l r + 1 else 0 := rfl
        rw [List.drop_succ_cons, List.drop_succ_cons]
        rw [hc] at h ⊢
        by_cases e : a = b
        · rw [if_pos e] at h ⊢
          rw [ih l r (by omega)]
          omega
        · rw [if_neg e] at h; omega
/-- behind what paths have alike, they have nothing alike -/
theorem alike_zero (ps : List PairD) (d : Nat) : alikeP ps (d + alikeP ps d) = 0 := by
  cases ps with
  | nil => rfl
  | cons q r =>
    obtain ⟨n, hn⟩ : ∃ n, alikeP (q :: r) d = n := ⟨_, rfl⟩
    obtain ⟨m, hm⟩ : ∃ m, alikeP (q :: r) (d + n) = m := ⟨_, rfl⟩
    rw [hn, hm]
    have h1 : n + m ≤ alikeP (q :: r) d := alike_max fun x hx => by
      have h2 := alike_mem (d := d) hx
      have h3 := alike_mem (d := d + n) hx
      rw [hn] at h2
      rw [hm, ← List.drop_drop, ← List.drop_drop, common_drop _ _ _ h2] at h3
      omega
    omega
section
variable (K : List UInt8 → List UInt8)
theorem node_fuel (f g : Nat) (ps : List PairD) (d : Nat) (hv : Valid ps d) (hf : 129 ≤ d + f) (hg : 129 ≤ d + g) : nodeP K f ps d = nodeP K g ps d := by
  induction f generalizing g ps d with
  | zero => have := valid_le hv; omega
  | succ f ih =>
    cases g with
    | zero => have := valid_le hv; omega
    | succ g =>
      match ps, hv with
      | [], hv => rfl
      | [q], hv => rfl
      | q :: q2 :: r, hv =>
        unfold nodeP
        dsimp only
        split
        · rw [ih g _ _ (valid_ext hv) (by omega) (by omega)]
        · congr 1
          refine List.map_congr_left fun h _ => ?_
          cases he : havingP (q :: q2 :: r) d (UInt8.ofNat h) with
          | nil => rfl
          | cons x m => exact congrArg (refI K) (ih g _ _ (valid_having hv he) (by omega) (by omega))
theorem bytes_fuel (f g : Nat) (ps : List PairD) (d : Nat) (hv : Valid ps d) (hf : 129 ≤ d + f) (hg : 129 ≤ d + g) : bytesP K f ps d = bytesP K g ps d := by
  unfold bytesP
  rw [node_fuel K f g ps d hv hf hg]
theorem told_fuel (f g : Nat) (ps : List PairD) (d : Nat) (hv : Valid ps d) (hf : 129 ≤ d + f) (hg : 129 ≤ d + g) : toldP K f ps d = toldP K g ps d := by
  unfold toldP
  rw [bytes_fuel K f g ps d hv hf hg]
theorem way_fuel (f g : Nat) (ps : List PairD) (d : Nat) (path : List UInt8) (hv : Valid ps d) (hf : 129 ≤ d + f) (hg : 129 ≤ d + g) : wayP K f ps d path = wayP K g ps d path := by
  induction f generalizing g ps d with
  | zero => have := valid_le hv; omega
  | succ f ih =>
    cases g with
    | zero => have := valid_le hv; omega
    | succ g =>
      unfold wayP
      rw [told_fuel K (f + 1) (g + 1) ps d hv hf hg]
      congr 1
      match ps, hv with
      | [], hv => rfl
      | [q], hv => rfl
      | q :: q2 :: r, hv =>
        dsimp only
        split
        · rw [ih g _ _ (valid_ext hv) (by omega) (by omega)]
        · cases path[d]? with
          | none => rfl
          | some h =>
            dsimp only
            cases he : havingP (q :: q2 :: r) d h with
            | nil => rfl
            | cons x m => exact ih g _ _ (valid_having hv he) (by omega) (by omega)
theorem nodes_fuel (f g : Nat) (ps : List PairD) (d : Nat) (hv : Valid ps d) (hf : 129 ≤ d + f) (hg : 129 ≤ d + g) : nodesP K f ps d = nodesP K g ps d := by
  induction f generalizing g ps d with
  | zero => have := valid_le hv; omega
  | succ f ih =>
    cases g with
    | zero => have := valid_le hv; omega
    | succ g =>
      unfold nodesP
      rw [told_fuel K (f + 1) (g + 1) ps d hv hf hg]
      congr 1
      match ps, hv with
      | [], hv => rfl
      | [q], hv => rfl
      | q :: q2 :: r, hv =>
        dsimp only
        split
        · rw [ih g _ _ (valid_ext hv) (by omega) (by omega)]
        · congr 1
          funext h
          cases he : havingP (q :: q2 :: r) d (UInt8.ofNat h) with
          | nil => rfl
          | cons x m => exact ih g _ _ (valid_having hv he) (by omega) (by omega)
end
end Go.Proofs.YthicdhnjincflaaDoor

/- Plain: each node of pairs can be written as bytes, which are read as the node; it is one by the rules of a proof. -/
namespace Go.Proofs.YthicdhnjincflaaDoor
open Go.RowKit

/-! is an item a node? -/
def emptyI (y : Item) : Bool := !y.isList && y.text.isEmpty
mutual
def isNodeP : Item → Bool
  | .mk b _ l => b && (if l.length = 17 then ((List.range 16).all fun i => emptyI (l.getD i .none) || (if (l.getD i .none).isList then (nodeFlags l).getD i false else decide ((l.getD i .none).text.length = 32))) && !(l.getD 16 .none).isList
      else decide (l.length = 2) && (!(l.getD 0 .none).isList && (decide ((read (l.getD 0 .none).text).2.2 = 0) && (if (read (l.getD 0 .none).text).2.1 then !(l.getD 1 .none).isList && !(l.getD 1 .none).text.isEmpty
        else !(read (l.getD 0 .none).text).1.isEmpty && (if (l.getD 1 .none).isList then (nodeFlags l).getD 1 false else decide ((l.getD 1 .none).text.length = 32))))))
def nodeFlags : List Item → List Bool
  | [] => []
  | x :: r => isNodeP x :: nodeFlags r
end
theorem nodeFlags_map (l : List Item) : nodeFlags l = l.map isNodeP := by
  induction l with
  | nil => rfl
  | cons x r ih => rw [nodeFlags, ih]; rfl
theorem nodeFlags_at (l : List Item) (i : Nat) : (nodeFlags l).getD i false = isNodeP (l.getD i .none) := by
  rw [nodeFlags_map, List.getD_eq_getElem?_getD, List.getD_eq_getElem?_getD, List.getElem?_map]
  cases l[i]? with
  | none => rfl
  | some x => rfl
/-- is an item a reference? -/
def isRefP (y : Item) : Bool := if y.isList then isNodeP y else decide (y.text.length = 32)
def brOk (l : List Item) : Bool := ((List.range 16).all fun i => emptyI (l.getD i .none) || isRefP (l.getD i .none)) && !(l.getD 16 .none).isList
def twoOk (l : List Item) : Bool := !(l.getD 0 .none).isList && (decide ((read (l.getD 0 .none).text).2.2 = 0) && (if (read (l.getD 0 .none).text).2.1 then !(l.getD 1 .none).isList && !(l.getD 1 .none).text.isEmpty
        else !(read (l.getD 0 .none).text).1.isEmpty && isRefP (l.getD 1 .none)))
theorem isNodeP_eq (x : Item) : isNodeP x = (x.isList && (if x.list.length = 17 then brOk x.list else decide (x.list.length = 2) && twoOk x.list)) := by
  cases x with
  | mk b t l =>
    unfold isNodeP brOk twoOk isRefP
    simp only [nodeFlags_at]
    rfl
theorem isNodeP_text (t : List UInt8) : isNodeP (txtI t) = false := by rw [isNodeP_eq]; rfl
theorem isRefP_iff (y : Item) : isRefP y = ((!y.isList && decide (y.text.length = 32)) || isNodeP y) := by
  unfold isRefP
  rw [isNodeP_eq]
  cases y.isList <;> simp

/-! lengths -/
theorem tp_framed (s : List UInt8) (b : Nat) : s.length + 1 ≤ (framed s b).length ∧ (framed s b).length ≤ s.length + 9 := by
  unfold framed
  split
  · simp
  · have := num_length s.length
    simp only [List.length_cons, List.length_append]
    omega
theorem tp_text (t : List UInt8) : 1 ≤ (put (txtI t)).length ∧ (put (txtI t)).length ≤ t.length + 9 := by
  show 1 ≤ (putText t).length ∧ (putText t).length ≤ _
  unfold putText
  split
  · omega
  · have := tp_framed t 128
    omega
theorem tp_lst (l : List Item) : (putAll l).length + 1 ≤ (put (lstI l)).length ∧ (put (lstI l)).length ≤ (putAll l).length + 9 := tp_framed _ _
theorem tp_pos (x : Item) : 1 ≤ (put x).length := by
  cases x with
  | mk b t l =>
    cases b with
    | true => have := (tp_lst l).1; show 1 ≤ (framed (putAll l) 192).length; have := tp_framed (putAll l) 192; omega
    | false => exact (tp_text t).1
theorem tp_mem {l : List Item} {c : Item} (h : c ∈ l) : (put c).length + l.length ≤ (putAll l).length + 1 := by
  induction l with
  | nil => cases h
  | cons a r ih =>
    rw [putAll, List.length_append, List.length_cons]
    have ha := tp_pos a
    rcases List.mem_cons.1 h with rfl | h
    · have : r.length ≤ (putAll r).length := by
        clear ih h
        induction r with
        | nil => simp
        | cons b r ih => have := tp_pos b; rw [putAll, List.length_append, List.length_cons]; omega
      omega
    · have := ih h
      omega
theorem tp_le {l : List Item} {B : Nat} (h : ∀ c ∈ l, (put c).length ≤ B) : (putAll l).length ≤ B * l.length := by
  induction l with
  | nil => simp [putAll]
  | cons a r ih =>
    have h1 := h a List.mem_cons_self
    have h2 := ih (fun c hc => h c (List.mem_cons_of_mem _ hc))
    rw [putAll, List.length_append, List.length_cons, Nat.mul_succ]
    omega
theorem deep_text (t : List UInt8) (m : Nat) : deep (txtI t) (m + 1) = false := rfl
theorem deep_lst (l : List Item) (m : Nat) : deep (lstI l) (m + 1) = l.any fun y => deep y m := by
  rw [deep_eq, if_neg (by omega)]
  rfl
theorem deep_less {x : Item} {m n : Nat} (h : deep x m = false) (hn : m ≤ n) : deep x n = false := by
  induction n with
  | zero => obtain rfl : m = 0 := by omega
            exact h
  | succ n ih =>
    rcases Nat.lt_or_ge n m with h1 | h1
    · obtain rfl : m = n + 1 := by omega
      exact h
    · have h2 := ih h1
      cases h3 : deep x (n + 1) with
      | false => rfl
      | true => rw [deep_mono x n h3] at h2; cases h2
theorem wrong_lstI (l : List Item) : wrong (lstI l) = l.any wrong := by rw [wrong_eq]; rfl
theorem wrong_txtI (t : List UInt8) : wrong (txtI t) = false := rfl
theorem tp_text32 {t : List UInt8} (h : t.length = 32) : (put (txtI t)).length = 33 := by
  show (putText t).length = 33
  unfold putText framed
  rw [if_neg (by omega), if_pos (by omega)]
  simp [h]
section
variable (K : List UInt8 → List UInt8)
/-- the shapes of nodes (true: of 17 items) -/
inductive Sh : Bool → Item → Prop
  | leaf (p v : List UInt8) : isPath p = true → p.length ≤ 128 → v ≠ [] → v.length ≤ 1000 → Sh false (leafI p v)
  | ext (p : List UInt8) (x : Item) : isPath p = true → p ≠ [] → p.length ≤ 128 → Sh true x → Sh false (extI p (refI K x))
  | br (on : Nat → Bool) (b : Nat → Bool) (x : Nat → Item) (v : List UInt8) : v.length ≤ 1000 → (∀ h, on h = true → Sh (b h) (x h)) → Sh true (brI ((List.range 16).map fun h => bif on h then refI K (x h) else .none) v)
/-- what is known of a node -/
structure Fit (b : Bool) (x : Item) : Prop where
  right : wrong x = false
  short : (put x).length ≤ 20000
  flat : deep x 5 = false
  wide : b = true → 18 ≤ (put x).length
  flat4 : (put x).length < 32 → deep x 4 = false
  flat3 : b = true → (put x).length < 32 → deep x 3 = false
  flat2 : (put x).length ≤ 14 → deep x 2 = false
  node : isNodeP x = true
  list : x.isList = true
variable {K}
theorem Fit.encode {b : Bool} {x : Item} (h : Fit b x) : encode x = (put x, 0) := encode_good (deep_less h.flat (by omega)) h.right (by have := h.short; omega)
/-- how a node is referred to: as itself, or by a digest -/
theorem Fit.refs {b : Bool} {x : Item} (h : Fit b x) : (refI K x = x ∧ (put x).length < 32) ∨ (refI K x = txtI (K (put x)) ∧ 32 ≤ (put x).length) := by
  unfold refI
  rw [h.encode]
  by_cases hl : (put x).length < 32
  · exact .inl ⟨by rw [if_pos hl], hl⟩
  · exact .inr ⟨by rw [if_neg hl], by omega⟩
theorem Fit.ref {b : Bool} {x : Item} (h : Fit b x) (hK : ∀ s, (K s).length = 32) : wrong (refI K x) = false ∧ (put (refI K x)).length ≤ 33 ∧ deep (refI K x) 4 = false ∧ isRefP (refI K x) = true ∧ (b = true → 18 ≤ (put (refI K x)).length) ∧ (b = true → deep (refI K x) 3 = false) ∧ ((put (refI K x)).length ≤ 14 → deep (refI K x) 2 = false) ∧ emptyI (refI K x) = false := by
  rcases h.refs with ⟨e, hl⟩ | ⟨e, hl⟩
  · rw [e]
    refine ⟨h.right, by omega, h.flat4 hl, ?_, h.wide, fun hb => h.flat3 hb hl, h.flat2, ?_⟩
    · unfold isRefP; rw [h.list]; exact h.node
    · unfold emptyI; rw [h.list]; rfl
  · rw [e]
    have h33 := tp_text32 (hK (put x))
    refine ⟨rfl, by omega, rfl, ?_, fun _ => by omega, fun _ => rfl, fun _ => rfl, ?_⟩
    · unfold isRefP
      show (if false = true then _ else decide ((K (put x)).length = 32)) = true
      rw [hK]; rfl
    · unfold emptyI
      show (!false && (K (put x)).isEmpty) = false
      cases hk : K (put x) with
      | nil => have := hK (put x); rw [hk] at this; simp at this
      | cons a r => rfl
theorem fit_leaf {p v : List UInt8} (hp : isPath p = true) (hl : p.length ≤ 128) (hv : v ≠ []) (hv2 : v.length ≤ 1000) : Fit false (leafI p v) := by
  have hf := form_length p true
  have h1 := tp_text (form p true).1
  have h2 := tp_text v
  have h3 := tp_lst [formI p true, txtI v]
  have h4 : (putAll [formI p true, txtI v]).length = (put (txtI (form p true).1)).length + (put (txtI v)).length := by simp [putAll, formI]
  have hd : deep (leafI p v) 2 = false := rfl
  refine ⟨rfl, ?_, deep_less hd (by omega), (fun h => by cases h), fun _ => deep_less hd (by omega), (fun h => by cases h), fun _ => hd, ?_, rfl⟩
  · show (put (lstI _)).length ≤ _
    omega
  · rw [isNodeP_eq]
    show (true && (if (2 : Nat) = 17 then _ else decide ((2 : Nat) = 2) && twoOk [formI p true, txtI v])) = true
    rw [if_neg (by omega)]
    unfold twoOk
    show (true && (true && (!(formI p true).isList && (decide ((read (form p true).1).2.2 = 0) && (if (read (form p true).1).2.1 = true then !(txtI v).isList && !v.isEmpty else _))))) = true
    rw [read_form_any p true hp]
    cases v with
    | nil => exact absurd rfl hv
    | cons a r => rfl
theorem fit_ext {p : List UInt8} {x : Item} (hp : isPath p = true) (hne : p ≠ []) (hl : p.length ≤ 128) (hx : Fit true x) (hK : ∀ s, (K s).length = 32) : Fit false (extI p (refI K x)) := by
  obtain ⟨r1, r2, r3, r4, r5, r6, r7, r8⟩ := hx.ref hK
  have hf := form_length p false
  have h1 := tp_text (form p false).1
  have h3 := tp_lst [formI p false, refI K x]
  have h4 : (putAll [formI p false, refI K x]).length = (put (txtI (form p false).1)).length + (put (refI K x)).length := by simp [putAll, formI]
  have hd : deep (extI p (refI K x)) 4 = false := by
    unfold extI
    rw [deep_lst]
    simp only [List.any_cons, List.any_nil, r6 rfl, Bool.or_false]
    rfl
  refine ⟨?_, ?_, deep_less hd (by omega), (fun h => by cases h), fun _ => hd, (fun h => by cases h), fun h => ?_, ?_, rfl⟩
  · unfold extI
    rw [wrong_lstI]
    simp only [List.any_cons, List.any_nil, r1, Bool.or_false]
    rfl
  · show (put (lstI _)).length ≤ _
    omega
  · have := r5 rfl
    have : (put (extI p (refI K x))).length = (put (lstI [formI p false, refI K x])).length := rfl
    omega
  · rw [isNodeP_eq]
    show (true && (if (2 : Nat) = 17 then _ else decide ((2 : Nat) = 2) && twoOk [formI p false, refI K x])) = true
    rw [if_neg (by omega)]
    unfold twoOk
    show (true && (true && (!(formI p false).isList && (decide ((read (form p false).1).2.2 = 0) && (if (read (form p false).1).2.1 = true then _ else !(read (form p false).1).1.isEmpty && isRefP (refI K x)))))) = true
    rw [read_form_any p false hp, r4]
    cases p with
    | nil => exact absurd rfl hne
    | cons a r => rfl
theorem range_getD {α : Type} (n : Nat) (g : Nat → α) (z : α) (t : List α) (i : Nat) (h : i < n) : (((List.range n).map g) ++ t).getD i z = g i := by
  rw [List.getD_eq_getElem?_getD, List.getElem?_append_left (by simpa using h), List.getElem?_map, List.getElem?_range h]
  rfl
theorem range_last {α : Type} (n : Nat) (g : Nat → α) (z a : α) : (((List.range n).map g) ++ [a]).getD n z = a := by
  rw [List.getD_eq_getElem?_getD, List.getElem?_append_right (by simp)]
  simp
theorem fit_br {on b : Nat → Bool} {x : Nat → Item} {v : List UInt8} (hv : v.length ≤ 1000) (hx : ∀ h, on h = true → Fit (b h) (x h)) (hK : ∀ s, (K s).length = 32) : Fit true (brI ((List.range 16).map fun h => bif on h then refI K (x h) else .none) v) := by
  obtain ⟨cs, hcs⟩ : ∃ cs, ((List.range 16).map fun h => bif on h then refI K (x h) else Item.none) = cs := ⟨_, rfl⟩
  have hlen : cs.length = 16 := by rw [← hcs]; simp
  have hmem : ∀ c ∈ cs, c = .none ∨ ∃ h, on h = true ∧ c = refI K (x h) := fun c hc => by
    rw [← hcs] at hc
    obtain ⟨h, _, rfl⟩ := List.mem_map.1 hc
    cases ho : on h with
    | true => exact .inr ⟨h, ho, rfl⟩
    | false => exact .inl rfl
  have hn1 : (put Item.none).length = 1 := by decide
  have h2 := tp_text v
  have h3 := tp_lst (cs ++ [txtI v])
  have h4 : (putAll (cs ++ [txtI v])).length = (putAll cs).length + (put (txtI v)).length := by rw [putAll_append]; simp [putAll]
  have h5 : (putAll cs).length ≤ 33 * cs.length := tp_le fun c hc => by
    rcases hmem c hc with rfl | ⟨h, ho, rfl⟩
    · omega
    · exact ((hx h ho).ref hK).2.1
  have h6 : ∀ c ∈ cs, (put c).length + 16 ≤ (putAll cs).length + 1 := fun c hc => by have := tp_mem hc; omega
  have h7 : 16 ≤ (putAll cs).length := by
    cases cs with
    | nil => simp at hlen
    | cons c r => have := h6 c List.mem_cons_self; have := tp_pos c; omega
  have hdeep : ∀ m, (∀ c ∈ cs, deep c (m + 1) = false) → deep (brI cs v) (m + 2) = false := fun m h => by
    unfold brI
    rw [deep_lst, List.any_append]
    have : (cs.any fun y => deep y (m + 1)) = false := by
      rw [List.any_eq_false]
      intro c hc
      rw [h c hc]; simp
    rw [this]
    rfl
  have hnd : ∀ m, deep Item.none (m + 1) = false := fun m => rfl
  have hd5 : deep (brI cs v) 5 = false := hdeep 3 fun c hc => by
    rcases hmem c hc with rfl | ⟨h, ho, rfl⟩
    · rfl
    · exact ((hx h ho).ref hK).2.2.1
  have hd3 : (put (brI cs v)).length < 32 → deep (brI cs v) 3 = false := fun hs => hdeep 1 fun c hc => by
    have hc6 := h6 c hc
    have : (put (brI cs v)).length = (put (lstI (cs ++ [txtI v]))).length := rfl
    rcases hmem c hc with rfl | ⟨h, ho, rfl⟩
    · rfl
    · exact ((hx h ho).ref hK).2.2.2.2.2.2.1 (by omega)
  rw [hcs]
  have hbr : (put (brI cs v)).length = (put (lstI (cs ++ [txtI v]))).length := rfl
  refine ⟨?_, by omega, hd5, fun _ => by omega, fun h => deep_less (hd3 h) (by omega), fun _ => hd3, fun h => by omega, ?_, rfl⟩
  · unfold brI
    rw [wrong_lstI, List.any_append]
    have : cs.any wrong = false := by
      rw [List.any_eq_false]
      intro c hc
      rcases hmem c hc with rfl | ⟨h, ho, rfl⟩
      · decide
      · rw [((hx h ho).ref hK).1]; simp
    rw [this]
    rfl
  · rw [isNodeP_eq]
    show (true && (if (cs ++ [txtI v]).length = 17 then brOk (cs ++ [txtI v]) else _)) = true
    rw [if_pos (by simp [hlen])]
    unfold brOk
    rw [Bool.true_and, Bool.and_eq_true]
    constructor
    · rw [List.all_eq_true]
      intro i hi
      have hi' := List.mem_range.1 hi
      rw [← hcs, range_getD 16 _ _ _ i hi']
      cases ho : on i with
      | false => rfl
      | true => rw [cond_true, ((hx i ho).ref hK).2.2.2.1, Bool.or_true]
    · rw [← hcs, range_last]; rfl
theorem Sh.fit (hK : ∀ s, (K s).length = 32) {b : Bool} {x : Item} (h : Sh K b x) : Fit b x := by
  induction h with
  | leaf p v hp hl hv hv2 => exact fit_leaf hp hl hv hv2
  | ext p x hp hne hl _ ih => exact fit_ext hp hne hl ih hK
  | br on b x v hv _ ih => exact fit_br hv ih hK
/-- may the pairs be the ones of a node? -/
def Fair (ps : List PairD) : Prop := ∀ q ∈ ps, q.2 ≠ [] ∧ q.2.length ≤ 1000
theorem ending_len {ps : List PairD} (h : Fair ps) (d : Nat) : (endingP ps d).length ≤ 1000 := by
  induction ps with
  | nil => simp [endingP]
  | cons q r ih =>
    unfold endingP
    split
    · exact (h q List.mem_cons_self).2
    · exact ih fun x hx => h x (List.mem_cons_of_mem _ hx)
theorem isPath_pth (q : PairD) : isPath (pth q) = true := isPath_halves q.1
theorem fair_having {ps : List PairD} {d : Nat} {h : UInt8} {x : PairD} {m : List PairD} (hf : Fair ps) (he : havingP ps d h = x :: m) : Fair (x :: m) := fun q hq => by
  rw [← he] at hq
  exact hf q (mem_having.1 hq).1
/-- a node of pairs has one of the shapes -/
theorem node_sh (f : Nat) (ps : List PairD) (d : Nat) (hv : Valid ps d) (hr : Fair ps) (hf : 129 ≤ d + f) : ∃ b, Sh K b (nodeP K f ps d) ∧ (2 ≤ ps.length → alikeP ps d = 0 → b = true) := by
  induction f generalizing ps d with
  | zero => have := valid_le hv; omega
  | succ f ih =>
    match ps, hv, hr with
    | [], hv, hr => exact absurd rfl hv.1
    | [q], hv, hr =>
      obtain ⟨h1, h2⟩ := hr q List.mem_cons_self
      have h3 := hv.2 q List.mem_cons_self
      exact ⟨false, Sh.leaf _ _ (isPath_drop (isPath_pth q) d) (by rw [List.length_drop]; omega) h1 h2, fun h => by simp at h⟩
    | q :: q2 :: r, hv, hr =>
      unfold nodeP
      dsimp only
      have h3 := hv.2 q List.mem_cons_self
      split
      · rename_i hn
        obtain ⟨b, h1, h2⟩ := ih _ _ (valid_ext hv) hr (by omega)
        obtain rfl : b = true := h2 (by simp) (alike_zero _ _)
        refine ⟨false, Sh.ext _ _ (isPath_take (isPath_drop (isPath_pth q) d) _) (fun h => ?_) (by rw [List.length_take, List.length_drop]; omega) h1, fun _ h => by omega⟩
        have h4 := congrArg List.length h
        have h5 := alike_len (d := d) (x := q) (ps := q :: q2 :: r) List.mem_cons_self
        rw [List.length_take, List.length_drop, List.length_nil] at h4
        omega
      · refine ⟨true, ?_, fun _ _ => rfl⟩
        have h6 : ∀ h : Nat, (!(havingP (q :: q2 :: r) d (UInt8.ofNat h)).isEmpty) = true → ∃ b, Sh K b (nodeP K f (havingP (q :: q2 :: r) d (UInt8.ofNat h)) (d + 1)) := fun h ho => by
          cases he : havingP (q :: q2 :: r) d (UInt8.ofNat h) with
          | nil => rw [he] at ho; cases ho
          | cons x m =>
            obtain ⟨b, h1, _⟩ := ih _ _ (valid_having hv he) (fair_having hr he) (by omega)
            exact ⟨b, h1⟩
        have h7 := Sh.br (K := K) (fun h => !(havingP (q :: q2 :: r) d (UInt8.ofNat h)).isEmpty) (fun h => if ho : (!(havingP (q :: q2 :: r) d (UInt8.ofNat h)).isEmpty) = true then (h6 h ho).choose else false) (fun h => nodeP K f (havingP (q :: q2 :: r) d (UInt8.ofNat h)) (d + 1)) (endingP (q :: q2 :: r) d) (ending_len hr d) (fun h ho => by
          rw [dif_pos ho]
          exact (h6 h ho).choose_spec)
        have h8 : ((List.range 16).map fun h => bif !(havingP (q :: q2 :: r) d (UInt8.ofNat h)).isEmpty then refI K (nodeP K f (havingP (q :: q2 :: r) d (UInt8.ofNat h)) (d + 1)) else Item.none) = (List.range 16).map fun h => match havingP (q :: q2 :: r) d (UInt8.ofNat h) with
            | [] => Item.none
            | x :: m => refI K (nodeP K f (x :: m) (d + 1)) := List.map_congr_left fun h _ => by
          cases havingP (q :: q2 :: r) d (UInt8.ofNat h) <;> rfl
        rw [h8] at h7
        exact h7
theorem node_fit (hK : ∀ s, (K s).length = 32) (f : Nat) (ps : List PairD) (d : Nat) (hv : Valid ps d) (hr : Fair ps) (hf : 129 ≤ d + f) : ∃ b, Fit b (nodeP K f ps d) := by
  obtain ⟨b, h, _⟩ := node_sh (K := K) f ps d hv hr hf
  exact ⟨b, h.fit hK⟩
end
end Go.Proofs.YthicdhnjincflaaDoor

/- Plain: what a list of nodes proves of a path: the way of a path proves what the pairs have there; whatever proves something tells what they have, or two texts have one digest; two lists that prove unlike things too. -/
namespace Go.Proofs.YthicdhnjincflaaDoor
open Go.RowKit

/-- how a walk goes on at a node: it stops with a value, or goes on at an item -/
inductive Way where
  | stop (v : List UInt8)
  | next (y : Item) (path : List UInt8)
def stepP (x : Item) (path : List UInt8) : Way :=
  if x.list.length = 17 then match path with
    | [] => .stop (x.list.getD 16 .none).text
    | h :: t => if emptyI (x.list.getD h.toNat .none) then .stop [] else .next (x.list.getD h.toNat .none) t
  else if (read (x.list.getD 0 .none).text).2.1 then .stop (if (read (x.list.getD 0 .none).text).1 = path then (x.list.getD 1 .none).text else [])
  else if (read (x.list.getD 0 .none).text).1.isPrefixOf path then .next (x.list.getD 1 .none) (path.drop (read (x.list.getD 0 .none).text).1.length) else .stop []
/-- what pairs have at a path -/
def lookupP : List PairD → List UInt8 → List UInt8
  | [], _ => []
  | q :: r, path => if pth q = path then q.2 else lookupP r path
section
variable (K : List UInt8 → List UInt8)
/-- the item of a reference, and the texts that are left -/
def openP (ref : Item) (proof : List (List UInt8)) : Option (Item × List (List UInt8)) :=
  if ref.isList then some (ref, proof) else match proof with
    | [] => none
    | s :: rest => if K s = ref.text ∧ (decode s).2 = 0 then some ((decode s).1, rest) else none
/-- the node of a reference -/
def nodeOf (ref : Item) (proof : List (List UInt8)) : Option (Item × List (List UInt8)) := match openP K ref proof with
  | none => none
  | some (x, rest) => if isNodeP x then some (x, rest) else none
def underP : Nat → Item → List UInt8 → List (List UInt8) → Option (List UInt8 × List (List UInt8))
  | 0, _, _, _ => none
  | f + 1, ref, path, proof => match nodeOf K ref proof with
    | none => none
    | some (x, rest) => match stepP x path with
      | .stop v => some (v, rest)
      | .next y p => underP f y p rest
/-- how the node of pairs at a depth is referred to -/
def topP (f : Nat) (ps : List PairD) (d : Nat) : Item := if d = 0 then txtI (K (bytesP K f ps d)) else refI K (nodeP K f ps d)
end
theorem step_short {x y : Item} {path p : List UInt8} (hx : isNodeP x = true) (h : stepP x path = .next y p) : p.length < path.length ∧ (isPath path = true → isPath p = true) := by
  unfold stepP at h
  by_cases h17 : x.list.length = 17
  · rw [if_pos h17] at h
    cases path with
    | nil => cases h
    | cons a t =>
      dsimp only at h
      split at h
      · cases h
      · cases h
        refine ⟨by simp, fun hp => ?_⟩
        rw [isPath_cons] at hp
        exact (Bool.and_eq_true_iff.1 hp).2
  · rw [if_neg h17] at h
    rw [isNodeP_eq, if_neg h17] at hx
    simp only [Bool.and_eq_true] at hx
    obtain ⟨_, _, h3⟩ := hx
    unfold twoOk at h3
    simp only [Bool.and_eq_true] at h3
    obtain ⟨_, _, h4⟩ := h3
    split at h
    · cases h
    · rename_i hl
      rw [if_neg hl] at h4
      split at h
      · rename_i hpre
        cases h
        have h5 : (read (x.list.getD 0 .none).text).1 ≠ [] := fun e => by rw [e] at h4; simp at h4
        have h6 := (List.isPrefixOf_iff_prefix.1 hpre).length_le
        have h7 : 0 < (read (x.list.getD 0 .none).text).1.length := List.length_pos_iff.2 h5
        refine ⟨by rw [List.length_drop]; omega, fun hp => isPath_drop hp _⟩
      · cases h
section
variable (K : List UInt8 → List UInt8)
theorem node_node {ref : Item} {proof rest : List (List UInt8)} {x : Item} (h : nodeOf K ref proof = some (x, rest)) : isNodeP x = true ∧ openP K ref proof = some (x, rest) := by
  unfold nodeOf at h
  cases ho : openP K ref proof with
  | none => rw [ho] at h; cases h
  | some q =>
    obtain ⟨y, r⟩ := q
    rw [ho] at h
    dsimp only at h
    split at h
    · rename_i hn; cases h; exact ⟨hn, rfl⟩
    · cases h
theorem under_fuel (f g : Nat) (ref : Item) (path : List UInt8) (proof : List (List UInt8)) (hf : path.length < f) (hg : path.length < g) : underP K f ref path proof = underP K g ref path proof := by
  induction f generalizing g ref path proof with
  | zero => omega
  | succ f ih =>
    cases g with
    | zero => omega
    | succ g =>
      unfold underP
      cases hn : nodeOf K ref proof with
      | none => rfl
      | some q =>
        obtain ⟨x, rest⟩ := q
        dsimp only
        cases hs : stepP x path with
        | stop v => rfl
        | next y p =>
          have h1 := (step_short (node_node K hn).1 hs).1
          exact ih g _ _ _ (by omega) (by omega)
/-- texts that are behind stay behind -/
theorem open_more (ref : Item) (l m : List (List UInt8)) : openP K ref (l ++ m) = (openP K ref l).map (fun q => (q.1, q.2 ++ m)) ∨ openP K ref l = none := by
  unfold openP
  split
  · exact .inl rfl
  · cases l with
    | nil => exact .inr rfl
    | cons s r =>
      left
      show (if K s = ref.text ∧ (decode s).2 = 0 then some ((decode s).1, r ++ m) else none) = _
      dsimp only
      split <;> rfl
theorem under_more (f : Nat) (ref : Item) (path : List UInt8) (l m : List (List UInt8)) {v : List UInt8} {r : List (List UInt8)} (h : underP K f ref path l = some (v, r)) : underP K f ref path (l ++ m) = some (v, r ++ m) := by
  induction f generalizing ref path l with
  | zero => cases h
  | succ f ih =>
    unfold underP at h ⊢
    cases hn : nodeOf K ref l with
    | none => rw [hn] at h; cases h
    | some q =>
      obtain ⟨x, rest⟩ := q
      obtain ⟨h1, h2⟩ := node_node K hn
      have h3 : nodeOf K ref (l ++ m) = some (x, rest ++ m) := by
        unfold nodeOf
        rcases open_more K ref l m with h4 | h4
        · rw [h4, h2]
          show (if isNodeP x = true then some (x, rest ++ m) else none) = _
          rw [if_pos h1]
        · rw [h4] at h2; cases h2
      rw [h3]
      rw [hn] at h
      dsimp only at h ⊢
      cases hs : stepP x path with
      | stop w => rw [hs] at h; cases h; rfl
      | next y p =>
        rw [hs] at h
        exact ih _ _ _ h
/-- what is left are the last ones -/
theorem under_left (f : Nat) (ref : Item) (path : List UInt8) (l : List (List UInt8)) {v : List UInt8} {r : List (List UInt8)} (h : underP K f ref path l = some (v, r)) : ∃ u, l = u ++ r ∧ underP K f ref path u = some (v, []) := by
  induction f generalizing ref path l with
  | zero => cases h
  | succ f ih =>
    unfold underP at h
    cases hn : nodeOf K ref l with
    | none => rw [hn] at h; cases h
    | some q =>
      obtain ⟨x, rest⟩ := q
      rw [hn] at h
      dsimp only at h
      obtain ⟨h1, h2⟩ := node_node K hn
      have h3 : ∃ a, l = a ++ rest ∧ ∀ t, nodeOf K ref (a ++ t) = some (x, t) := by
        unfold openP at h2
        split at h2
        · rename_i hl
          cases h2
          refine ⟨[], rfl, fun t => ?_⟩
          unfold nodeOf openP
          rw [if_pos hl]
          show (if isNodeP ref = true then some (ref, t) else none) = _
          rw [if_pos h1]
        · rename_i hl
          cases l with
          | nil => cases h2
          | cons s r2 =>
            dsimp only at h2
            split at h2
            · rename_i hc
              cases h2
              refine ⟨[s], rfl, fun t => ?_⟩
              unfold nodeOf openP
              rw [if_neg hl]
              show (match (if K s = ref.text ∧ (decode s).2 = 0 then some ((decode s).1, t) else none) with
                | none => none
                | some (x, rest) => if isNodeP x then some (x, rest) else none) = _
              rw [if_pos hc]
              show (if isNodeP _ = true then some (_, t) else none) = _
              rw [if_pos h1]
            · cases h2
      obtain ⟨a, ha, h4⟩ := h3
      cases hs : stepP x path with
      | stop w =>
        rw [hs] at h
        cases h
        refine ⟨a, ha, ?_⟩
        unfold underP
        have h5 := h4 []
        rw [List.append_nil] at h5
        rw [h5]
        dsimp only
        rw [hs]
      | next y p =>
        rw [hs] at h
        obtain ⟨u, hu, h6⟩ := ih _ _ _ h
        refine ⟨a ++ u, by rw [ha, hu, List.append_assoc], ?_⟩
        unfold underP
        rw [h4 u]
        dsimp only
        rw [hs]
        exact h6
/-- two lists that prove unlike things under one reference -/
theorem under_two (f : Nat) (ref : Item) (path : List UInt8) (l m : List (List UInt8)) {v w : List UInt8} {r t : List (List UInt8)} (h : underP K f ref path l = some (v, r)) (h2 : underP K f ref path m = some (w, t)) : v = w ∨ ∃ a ∈ l, ∃ b ∈ m, a ≠ b ∧ K a = K b := by
  induction f generalizing ref path l m with
  | zero => cases h
  | succ f ih =>
    unfold underP at h h2
    cases hn : nodeOf K ref l with
    | none => rw [hn] at h; cases h
    | some q =>
      cases hn2 : nodeOf K ref m with
      | none => rw [hn2] at h2; cases h2
      | some q2 =>
        obtain ⟨x, rest⟩ := q
        obtain ⟨x2, rest2⟩ := q2
        rw [hn] at h
        rw [hn2] at h2
        dsimp only at h h2
        have o1 := (node_node K hn).2
        have o2 := (node_node K hn2).2
        have h3 : (x = x2 ∧ (∀ a ∈ rest, a ∈ l) ∧ (∀ b ∈ rest2, b ∈ m)) ∨ ∃ a ∈ l, ∃ b ∈ m, a ≠ b ∧ K a = K b := by
          unfold openP at o1 o2
          split at o1
          · rename_i hl
            rw [if_pos hl] at o2
            cases o1; cases o2
            exact .inl ⟨rfl, fun _ h => h, fun _ h => h⟩
          · rename_i hl
            rw [if_neg hl] at o2
            cases l with
            | nil => cases o1
            | cons s l =>
              cases m with
              | nil => cases o2
              | cons s2 m =>
                dsimp only at o1 o2
                split at o1
                · rename_i hc
                  split at o2
                  · rename_i hc2
                    cases o1; cases o2
                    by_cases he : s = s2
                    · subst he
                      exact .inl ⟨rfl, fun _ h => List.mem_cons_of_mem _ h, fun _ h => List.mem_cons_of_mem _ h⟩
                    · exact .inr ⟨s, List.mem_cons_self, s2, List.mem_cons_self, he, hc.1.trans hc2.1.symm⟩
                  · cases o2
                · cases o1
        rcases h3 with ⟨rfl, h4, h5⟩ | h3
        · cases hs : stepP x path with
          | stop u =>
            rw [hs] at h h2
            cases h; cases h2
            exact .inl rfl
          | next y p =>
            rw [hs] at h h2
            rcases ih _ _ _ _ h h2 with h6 | ⟨a, ha, b, hb, h7⟩
            · exact .inl h6
            · exact .inr ⟨a, h4 a ha, b, h5 b hb, h7⟩
        · exact .inr h3
end
/-! lookups -/
theorem lookup_none {ps : List PairD} {path : List UInt8} (h : ∀ q ∈ ps, pth q ≠ path) : lookupP ps path = [] := by
  induction ps with
  | nil => rfl
  | cons q r ih =>
    unfold lookupP
    rw [if_neg (h q List.mem_cons_self)]
    exact ih fun x hx => h x (List.mem_cons_of_mem _ hx)
theorem lookup_having {ps : List PairD} {d : Nat} {h : UInt8} {path : List UInt8} (hp : path[d]? = some h) : lookupP ps path = lookupP (havingP ps d h) path := by
  induction ps with
  | nil => rfl
  | cons q r ih =>
    unfold havingP at ih ⊢
    rw [List.filter_cons]
    by_cases hq : ((pth q)[d]? == some h) = true
    · rw [if_pos hq]
      unfold lookupP
      rw [ih]
    · rw [if_neg hq, ← ih]
      have hne : pth q ≠ path := fun e => hq (by rw [e, hp]; simp)
      show (if pth q = path then q.2 else lookupP r path) = _
      rw [if_neg hne]
theorem lookup_ending {ps : List PairD} {d : Nat} {path : List UInt8} (hd : path.length = d) (h : ∀ q ∈ ps, (pth q).take d = path.take d) : lookupP ps path = endingP ps d := by
  induction ps with
  | nil => rfl
  | cons q r ih =>
    unfold lookupP endingP
    have h1 := h q List.mem_cons_self
    rw [ih fun x hx => h x (List.mem_cons_of_mem _ hx)]
    have hl : (pth q).length = 2 * q.1.length := halves_length q.1
    by_cases e : 2 * q.1.length = d
    · rw [if_pos e]
      rw [List.take_of_length_le (by omega), List.take_of_length_le (by omega)] at h1
      rw [if_pos h1]
    · rw [if_neg e, if_neg fun h2 => e (by rw [← hl, h2, hd])]
/-- do all paths agree with a path, up to a depth? -/
def Along (ps : List PairD) (d : Nat) (path : List UInt8) : Prop := ∀ q ∈ ps, (pth q).take d = path.take d
section
variable (K : List UInt8 → List UInt8)
theorem node_two (f : Nat) (q q2 : PairD) (r : List PairD) (d : Nat) : nodeP K (f + 1) (q :: q2 :: r) d = if 0 < alikeP (q :: q2 :: r) d then extI (((pth q).drop d).take (alikeP (q :: q2 :: r) d)) (refI K (nodeP K f (q :: q2 :: r) (d + alikeP (q :: q2 :: r) d)))
      else brI ((List.range 16).map fun h => match havingP (q :: q2 :: r) d (UInt8.ofNat h) with
        | [] => .none
        | x :: m => refI K (nodeP K f (x :: m) (d + 1))) (endingP (q :: q2 :: r) d) := rfl
/-- what is told behind a node itself -/
def wayTail (f : Nat) (ps : List PairD) (d : Nat) (path : List UInt8) : List (List UInt8) := match ps with
    | [] => []
    | [_] => []
    | q :: q2 :: r => if 0 < alikeP (q :: q2 :: r) d then
        (if path.length < d + alikeP (q :: q2 :: r) d ∨ (path.drop d).take (alikeP (q :: q2 :: r) d) ≠ ((pth q).drop d).take (alikeP (q :: q2 :: r) d) then [] else wayP K f (q :: q2 :: r) (d + alikeP (q :: q2 :: r) d) path)
      else match path[d]? with
        | none => []
        | some h => match havingP (q :: q2 :: r) d h with
          | [] => []
          | x :: m => wayP K f (x :: m) (d + 1) path
def nodesTail (f : Nat) (ps : List PairD) (d : Nat) : List (List UInt8) := match ps with
    | [] => []
    | [_] => []
    | q :: q2 :: r => if 0 < alikeP (q :: q2 :: r) d then nodesP K f (q :: q2 :: r) (d + alikeP (q :: q2 :: r) d)
      else (List.range 16).flatMap fun h => match havingP (q :: q2 :: r) d (UInt8.ofNat h) with
        | [] => []
        | x :: m => nodesP K f (x :: m) (d + 1)
theorem way_tail (f : Nat) (ps : List PairD) (d : Nat) (path : List UInt8) : wayP K (f + 1) ps d path = toldP K (f + 1) ps d ++ wayTail K f ps d path := rfl
theorem nodes_tail (f : Nat) (ps : List PairD) (d : Nat) : nodesP K (f + 1) ps d = toldP K (f + 1) ps d ++ nodesTail K f ps d := rfl
variable {K}
theorem take_split {a b : List UInt8} {d n : Nat} (h1 : a.take d = b.take d) (h2 : (a.drop d).take n = (b.drop d).take n) : a.take (d + n) = b.take (d + n) := by
  rw [List.take_add, List.take_add, h1, h2]
theorem eq_of_split {a b : List UInt8} {d : Nat} (h1 : a.take d = b.take d) (h2 : a.drop d = b.drop d) : a = b := by
  rw [← List.take_append_drop d a, ← List.take_append_drop d b, h1, h2]
theorem take_common {a b : List UInt8} {n : Nat} (h : n ≤ common a b) : a.take n = b.take n := by
  have h2 := congrArg (List.take n) (common_take a b)
  rwa [List.take_take, List.take_take, Nat.min_eq_left h] at h2
/-- a step at the node of pairs -/
theorem step_node (hK : ∀ s, (K s).length = 32) (f : Nat) (ps : List PairD) (d : Nat) (path : List UInt8) (hv : Valid ps d) (hr : Fair ps) (hf : 129 ≤ d + (f + 1)) (hp : isPath path = true) (hd : d ≤ path.length) (ha : Along ps d path) :
    (stepP (nodeP K (f + 1) ps d) (path.drop d) = .stop (lookupP ps path) ∧ wayTail K f ps d path = []) ∨
    ∃ ps' d', stepP (nodeP K (f + 1) ps d) (path.drop d) = .next (refI K (nodeP K f ps' d')) (path.drop d') ∧ wayTail K f ps d path = wayP K f ps' d' path ∧ (∀ a ∈ nodesP K f ps' d', a ∈ nodesTail K f ps d) ∧
      lookupP ps path = lookupP ps' path ∧ Valid ps' d' ∧ Fair ps' ∧ Along ps' d' path ∧ d < d' ∧ d' ≤ path.length := by
  match ps, hv, hr, ha with
  | [], hv, hr, ha => exact absurd rfl hv.1
  | [q], hv, hr, ha =>
    left
    refine ⟨?_, rfl⟩
    have h1 := ha q List.mem_cons_self
    show stepP (leafI ((pth q).drop d) q.2) _ = _
    unfold stepP
    show (if (2 : Nat) = 17 then _ else if (read (form ((pth q).drop d) true).1).2.1 then Way.stop (if (read (form ((pth q).drop d) true).1).1 = path.drop d then q.2 else []) else _) = _
    rw [if_neg (by omega), read_form_any _ true (isPath_drop (isPath_pth q) d), if_pos rfl]
    show Way.stop (if (pth q).drop d = path.drop d then q.2 else []) = .stop (if pth q = path then q.2 else [])
    by_cases e : pth q = path
    · rw [if_pos e, if_pos (by rw [e])]
    · rw [if_neg e, if_neg fun h => e (eq_of_split h1 h)]
  | q :: q2 :: r, hv, hr, ha =>
    obtain ⟨ps, hps⟩ : ∃ ps, q :: q2 :: r = ps := ⟨_, rfl⟩
    have hq0 : q ∈ ps := by rw [← hps]; exact List.mem_cons_self
    have hal : ∀ x ∈ ps, alikeP ps d ≤ common ((pth q).drop d) ((pth x).drop d) := fun x hx => by
      rw [← hps] at hx ⊢
      exact alike_mem hx
    by_cases hn : 0 < alikeP ps d
    · have e1 : nodeP K (f + 1) ps d = extI (((pth q).drop d).take (alikeP ps d)) (refI K (nodeP K f ps (d + alikeP ps d))) := by
        rw [← hps] at hn ⊢
        rw [node_two]
        rw [if_pos hn]
      have e2 : wayTail K f ps d path = if path.length < d + alikeP ps d ∨ (path.drop d).take (alikeP ps d) ≠ ((pth q).drop d).take (alikeP ps d) then [] else wayP K f ps (d + alikeP ps d) path := by
        rw [← hps] at hn ⊢
        unfold wayTail
        dsimp only
        rw [if_pos hn]
      have e3 : nodesTail K f ps d = nodesP K f ps (d + alikeP ps d) := by
        rw [← hps] at hn ⊢
        unfold nodesTail
        dsimp only
        rw [if_pos hn]
      rw [hps] at hv hr ha ⊢
      obtain ⟨n, hne⟩ : ∃ n, alikeP ps d = n := ⟨_, rfl⟩
      have hln := alike_len (d := d) hq0
      have hve := valid_ext hv
      rw [hne] at e1 e2 e3 hn hal hln hve
      have hpl : (((pth q).drop d).take n).length = n := by
        have := hv.2 q hq0
        rw [List.length_take, List.length_drop]; omega
      have hst : stepP (nodeP K (f + 1) ps d) (path.drop d) = if (((pth q).drop d).take n).isPrefixOf (path.drop d) then .next (refI K (nodeP K f ps (d + n))) (path.drop (d + n)) else .stop [] := by
        rw [e1]
        unfold stepP
        show (if (2 : Nat) = 17 then _ else if (read (form (((pth q).drop d).take n) false).1).2.1 then _ else if (read (form (((pth q).drop d).take n) false).1).1.isPrefixOf (path.drop d) then Way.next (refI K (nodeP K f ps (d + n))) ((path.drop d).drop (read (form (((pth q).drop d).take n) false).1).1.length) else Way.stop []) = _
        rw [if_neg (by omega), read_form_any _ false (isPath_take (isPath_drop (isPath_pth q) d) n), if_neg (by simp)]
        dsimp only
        rw [hpl, List.drop_drop]
      by_cases hpre : (((pth q).drop d).take n).isPrefixOf (path.drop d) = true
      · right
        have hpx := List.isPrefixOf_iff_prefix.1 hpre
        have h1 : (path.drop d).take n = ((pth q).drop d).take n := by
          have h2 := List.prefix_iff_eq_take.1 hpx
          rw [hpl] at h2
          exact h2.symm
        have h3 : d + n ≤ path.length := by
          have := hpx.length_le
          rw [hpl, List.length_drop] at this
          omega
        refine ⟨ps, d + n, by rw [hst, if_pos hpre], ?_, by rw [e3]; exact fun _ h => h, rfl, hve, hr, fun x hx => ?_, by omega, h3⟩
        · rw [e2, if_neg]
          rintro (h4 | h4)
          · omega
          · exact h4 h1
        · refine take_split (ha x hx) ?_
          rw [← take_common (hal x hx), h1]
      · left
        have hlk : lookupP ps path = [] := lookup_none fun x hx e => hpre (by
          rw [List.isPrefixOf_iff_prefix, take_common (hal x hx), e]
          exact List.take_prefix _ _)
        refine ⟨by rw [hst, if_neg hpre, hlk], ?_⟩
        rw [e2, if_pos]
        by_cases h4 : path.length < d + n
        · exact .inl h4
        · refine .inr fun h5 => hpre ?_
          rw [List.isPrefixOf_iff_prefix, ← h5]
          exact List.take_prefix _ _
    · have e1 : nodeP K (f + 1) ps d = brI ((List.range 16).map fun h => match havingP ps d (UInt8.ofNat h) with
          | [] => .none
          | x :: m => refI K (nodeP K f (x :: m) (d + 1))) (endingP ps d) := by
        rw [← hps] at hn ⊢
        rw [node_two]
        rw [if_neg hn]
      have e2 : wayTail K f ps d path = match path[d]? with
          | none => []
          | some h => match havingP ps d h with
            | [] => []
            | x :: m => wayP K f (x :: m) (d + 1) path := by
        rw [← hps] at hn ⊢
        unfold wayTail
        dsimp only
        rw [if_neg hn]
      have e3 : nodesTail K f ps d = (List.range 16).flatMap fun h => match havingP ps d (UInt8.ofNat h) with
          | [] => []
          | x :: m => nodesP K f (x :: m) (d + 1) := by
        rw [← hps] at hn ⊢
        unfold nodesTail
        dsimp only
        rw [if_neg hn]
      rw [hps] at hv hr ha ⊢
      have h17 : (((List.range 16).map fun h => match havingP ps d (UInt8.ofNat h) with
          | [] => Item.none
          | x :: m => refI K (nodeP K f (x :: m) (d + 1))) ++ [txtI (endingP ps d)]).length = 17 := by simp
      cases hpd : path[d]? with
      | none =>
        left
        have hlen : path.length = d := by have := List.getElem?_eq_none_iff.1 hpd; omega
        refine ⟨?_, by rw [e2, hpd]⟩
        rw [lookup_ending hlen ha, e1, List.drop_of_length_le (by omega)]
        unfold stepP brI
        show (if (((List.range 16).map _) ++ [txtI (endingP ps d)]).length = 17 then Way.stop ((((List.range 16).map _) ++ [txtI (endingP ps d)]).getD 16 .none).text else _) = _
        rw [if_pos h17, range_last]
        rfl
      | some h =>
        have hh := isPath_at hp hpd
        have hlt := (List.getElem?_eq_some_iff.1 hpd).1
        have hdr : path.drop d = h :: path.drop (d + 1) := by
          obtain ⟨hl, he⟩ := List.getElem?_eq_some_iff.1 hpd
          rw [← he]
          exact List.drop_eq_getElem_cons hl
        have hch : ((((List.range 16).map fun h => match havingP ps d (UInt8.ofNat h) with
            | [] => Item.none
            | x :: m => refI K (nodeP K f (x :: m) (d + 1))) ++ [txtI (endingP ps d)]).getD h.toNat .none) = match havingP ps d h with
            | [] => Item.none
            | x :: m => refI K (nodeP K f (x :: m) (d + 1)) := by
          rw [range_getD 16 _ _ _ h.toNat (by omega)]
          rw [UInt8.ofNat_toNat]
        have hst : stepP (nodeP K (f + 1) ps d) (path.drop d) = if emptyI (match havingP ps d h with
            | [] => Item.none
            | x :: m => refI K (nodeP K f (x :: m) (d + 1))) then .stop [] else .next (match havingP ps d h with
            | [] => Item.none
            | x :: m => refI K (nodeP K f (x :: m) (d + 1))) (path.drop (d + 1)) := by
          rw [e1, hdr]
          unfold stepP brI
          rw [← hch]
          show (if (((List.range 16).map _) ++ [txtI (endingP ps d)]).length = 17 then (if emptyI ((((List.range 16).map _) ++ [txtI (endingP ps d)]).getD h.toNat .none) then Way.stop [] else Way.next ((((List.range 16).map _) ++ [txtI (endingP ps d)]).getD h.toNat .none) (path.drop (d + 1))) else _) = _
          rw [if_pos h17]
        have hlk := lookup_having (ps := ps) hpd
        cases hm : havingP ps d h with
        | nil =>
          left
          rw [hm] at hst hlk
          refine ⟨by rw [hst, hlk]; rfl, by rw [e2, hpd]; dsimp only; rw [hm]⟩
        | cons x m =>
          right
          have hv2 := valid_having hv hm
          have hr2 := fair_having hr hm
          obtain ⟨b, hfit⟩ := node_fit (K := K) hK f _ _ hv2 hr2 (by omega)
          rw [hm] at hst hlk
          refine ⟨x :: m, d + 1, ?_, by rw [e2, hpd]; dsimp only; rw [hm], fun a hma => ?_, hlk, hv2, hr2, fun y hy => ?_, by omega, by omega⟩
          · rw [hst]
            dsimp only
            rw [(hfit.ref hK).2.2.2.2.2.2.2]
            rfl
          · rw [e3, List.mem_flatMap]
            refine ⟨h.toNat, List.mem_range.2 (by omega), ?_⟩
            rw [UInt8.ofNat_toNat, hm]
            exact hma
          · rw [← hm] at hy
            obtain ⟨h1, h2⟩ := mem_having.1 hy
            rw [List.take_add_one, List.take_add_one, ha y h1, h2, hpd]
/-- the way of a path proves what the pairs have there -/
theorem honest (hK : ∀ s, (K s).length = 32) (f : Nat) (ps : List PairD) (d : Nat) (path : List UInt8) (hv : Valid ps d) (hr : Fair ps) (hf : 129 ≤ d + f) (hp : isPath path = true) (hd : d ≤ path.length) (ha : Along ps d path) (g : Nat) (hg : path.length - d < g) (more : List (List UInt8)) :
    underP K g (topP K f ps d) (path.drop d) (wayP K f ps d path ++ more) = some (lookupP ps path, more) := by
  induction f generalizing ps d g with
  | zero => have := valid_le hv; omega
  | succ f ih =>
    cases g with
    | zero => omega
    | succ g =>
      obtain ⟨b, hfit⟩ := node_fit (K := K) hK (f + 1) ps d hv hr hf
      have henc := hfit.encode
      have hno : ∀ t, nodeOf K (topP K (f + 1) ps d) (toldP K (f + 1) ps d ++ t) = some (nodeP K (f + 1) ps d, t) := fun t => by
        have hby : bytesP K (f + 1) ps d = put (nodeP K (f + 1) ps d) := by unfold bytesP; rw [henc]
        have hdec := decode_encode henc
        have hsome : nodeOf K (txtI (K (bytesP K (f + 1) ps d))) ([bytesP K (f + 1) ps d] ++ t) = some (nodeP K (f + 1) ps d, t) := by
          unfold nodeOf openP
          show (match (if K (bytesP K (f + 1) ps d) = K (bytesP K (f + 1) ps d) ∧ (decode (bytesP K (f + 1) ps d)).2 = 0 then some ((decode (bytesP K (f + 1) ps d)).1, t) else none) with
            | none => none
            | some (x, rest) => if isNodeP x then some (x, rest) else none) = _
          rw [hby, hdec, if_pos ⟨rfl, rfl⟩]
          dsimp only
          rw [if_pos hfit.node]
        unfold topP toldP
        by_cases h0 : d = 0
        · rw [if_pos h0, if_pos (.inl h0)]
          exact hsome
        · rw [if_neg h0]
          rcases hfit.refs (K := K) with ⟨e, hl⟩ | ⟨e, hl⟩
          · rw [e, if_neg (by rw [hby]; omega)]
            unfold nodeOf openP
            rw [if_pos hfit.list]
            dsimp only
            rw [List.nil_append, if_pos hfit.node]
          · rw [if_pos (.inr (by rw [hby]; omega)), e, ← hby]
            exact hsome
      rw [way_tail, List.append_assoc]
      unfold underP
      rw [hno]
      dsimp only
      rcases step_node (K := K) hK f ps d path hv hr hf hp hd ha with ⟨h1, h2⟩ | ⟨ps', d', h1, h2, _, h3, hv', hr', ha', h4, h5⟩
      · rw [h1, h2]
        rfl
      · rw [h1, h2, h3]
        dsimp only
        have h6 := ih ps' d' hv' hr' (by omega) h5 ha' g (by omega)
        unfold topP at h6
        rw [if_neg (by omega)] at h6
        exact h6
/-- whatever proves something under the reference of pairs tells what they have, or two texts have one digest -/
theorem sound (hK : ∀ s, (K s).length = 32) (f : Nat) (ps : List PairD) (d : Nat) (path : List UInt8) (hv : Valid ps d) (hr : Fair ps) (hf : 129 ≤ d + f) (hp : isPath path = true) (hd : d ≤ path.length) (ha : Along ps d path) (g : Nat) (m : List (List UInt8)) {v : List UInt8} {rest : List (List UInt8)}
    (h : underP K g (topP K f ps d) (path.drop d) m = some (v, rest)) : v = lookupP ps path ∨ ∃ a ∈ nodesP K f ps d, ∃ b ∈ m, a ≠ b ∧ K a = K b := by
  induction f generalizing ps d g m with
  | zero => have := valid_le hv; omega
  | succ f ih =>
    cases g with
    | zero => cases h
    | succ g =>
      obtain ⟨b, hfit⟩ := node_fit (K := K) hK (f + 1) ps d hv hr hf
      have henc := hfit.encode
      have hby : bytesP K (f + 1) ps d = put (nodeP K (f + 1) ps d) := by unfold bytesP; rw [henc]
      have hdec := decode_encode henc
      unfold underP at h
      cases hn : nodeOf K (topP K (f + 1) ps d) m with
      | none => rw [hn] at h; cases h
      | some q =>
        obtain ⟨x, rest'⟩ := q
        rw [hn] at h
        dsimp only at h
        have ho := (node_node K hn).2
        have hcase : (x = nodeP K (f + 1) ps d ∧ ∀ b ∈ rest', b ∈ m) ∨ ∃ a ∈ nodesP K (f + 1) ps d, ∃ b ∈ m, a ≠ b ∧ K a = K b := by
          have htxt : ∀ (hin : bytesP K (f + 1) ps d ∈ nodesP K (f + 1) ps d), openP K (txtI (K (bytesP K (f + 1) ps d))) m = some (x, rest') → (x = nodeP K (f + 1) ps d ∧ ∀ b ∈ rest', b ∈ m) ∨ ∃ a ∈ nodesP K (f + 1) ps d, ∃ b ∈ m, a ≠ b ∧ K a = K b := fun hin ho => by
            unfold openP at ho
            rw [if_neg (by simp [txtI, Item.isList])] at ho
            cases m with
            | nil => cases ho
            | cons s m =>
              dsimp only at ho
              split at ho
              · rename_i hc
                cases ho
                by_cases he : bytesP K (f + 1) ps d = s
                · refine .inl ⟨?_, fun b hb => List.mem_cons_of_mem _ hb⟩
                  rw [← he, hby, hdec]
                · exact .inr ⟨_, hin, s, List.mem_cons_self, he, hc.1.symm⟩
              · cases ho
          unfold topP at ho
          by_cases h0 : d = 0
          · rw [if_pos h0] at ho
            exact htxt (by rw [nodes_tail]; unfold toldP; rw [if_pos (.inl h0)]; simp) ho
          · rw [if_neg h0] at ho
            rcases hfit.refs (K := K) with ⟨e, hl⟩ | ⟨e, hl⟩
            · rw [e] at ho
              unfold openP at ho
              rw [if_pos hfit.list] at ho
              cases ho
              exact .inl ⟨rfl, fun _ h => h⟩
            · rw [e, ← hby] at ho
              exact htxt (by rw [nodes_tail]; unfold toldP; rw [if_pos (.inr (by rw [hby]; omega))]; simp) ho
        rcases hcase with ⟨rfl, hsub⟩ | hcase
        · rcases step_node (K := K) hK f ps d path hv hr hf hp hd ha with ⟨h1, _⟩ | ⟨ps', d', h1, _, h2, h3, hv', hr', ha', h4, h5⟩
          · rw [h1] at h
            cases h
            exact .inl rfl
          · rw [h1] at h
            dsimp only at h
            have h6 := ih ps' d' hv' hr' (by omega) h5 ha' g rest'
            unfold topP at h6
            rw [if_neg (by omega)] at h6
            rcases h6 h with h7 | ⟨a, ha2, c, hc, h8⟩
            · exact .inl (by rw [h3]; exact h7)
            · exact .inr ⟨a, by rw [nodes_tail]; exact List.mem_append_right _ (h2 a ha2), c, hsub c hc, h8⟩
        · exact .inr hcase
end
end Go.Proofs.YthicdhnjincflaaDoor

/- Plain: what a check of a key comes to, which texts refer to each other, and the laws of checks. -/
namespace Go.Proofs.YthicdhnjincflaaDoor
open Go.RowKit

def sizesP (root : List UInt8) (l : List (List UInt8)) : Bool := l.all (fun s => decide (s.length ≤ 65536)) && (decide (root.length = 32) && decide (l.length ≤ 140))
def keyOk (key : List UInt8) : Bool := !key.isEmpty && decide (key.length ≤ 64)
section
variable (K : List UInt8 → List UInt8)
/-- what nodes prove of a path, all of them asked for -/
def foundP (root path : List UInt8) (l : List (List UInt8)) : Option (List UInt8) := match underP K 129 (txtI root) path l with
  | some (v, []) => some v
  | _ => none
def checkP (root key : List UInt8) (l : List (List UInt8)) : List UInt8 × Int :=
  if !(sizesP root l && keyOk key) then ([], 2)
  else if l.isEmpty then (if root = K [128] then ([], 0) else ([], 70))
  else match foundP K root (halves key) l with
    | some v => (v, 0)
    | none => ([], 70)
/-- those that refer to each other -/
def leadL : List UInt8 → List (List UInt8) → List (List UInt8)
  | _, [] => []
  | a, s :: r => if Lib.contains a (K s) then s :: leadL s r else []
def leadP (root : List UInt8) (l : List (List UInt8)) : List (List UInt8) × Int := if sizesP root l then (leadL K root l, 0) else ([], 2)
/-- have two unlike texts one digest? -/
def Clash (l : List (List UInt8)) : Prop := ∃ a ∈ l, ∃ b ∈ l, a ≠ b ∧ K a = K b
variable {K}
theorem check_bad {root key : List UInt8} {l : List (List UInt8)} (h : (sizesP root l && keyOk key) = false) : checkP K root key l = ([], 2) := by
  unfold checkP; rw [h]; rfl
theorem check_none {root key : List UInt8} (h : (sizesP root [] && keyOk key) = true) : checkP K root key [] = if root = K [128] then ([], 0) else ([], 70) := by
  unfold checkP; rw [h]; rfl
theorem check_some {root key s : List UInt8} {l : List (List UInt8)} (h : (sizesP root (s :: l) && keyOk key) = true) : checkP K root key (s :: l) = match foundP K root (halves key) (s :: l) with
    | some v => (v, 0)
    | none => ([], 70) := by
  unfold checkP; rw [h]; rfl
theorem check_err (root key : List UInt8) (l : List (List UInt8)) : (checkP K root key l).2 = 0 ∨ (checkP K root key l).2 = 2 ∨ (checkP K root key l).2 = 70 := by
  unfold checkP
  split
  · exact .inr (.inl rfl)
  · split
    · split
      · exact .inl rfl
      · exact .inr (.inr rfl)
    · split
      · exact .inl rfl
      · exact .inr (.inr rfl)
/-- what is proved, if something is -/
theorem check_ok {root key : List UInt8} {l : List (List UInt8)} {v : List UInt8} (h : checkP K root key l = (v, 0)) :
    (sizesP root l && keyOk key) = true ∧ ((l = [] ∧ root = K [128] ∧ v = []) ∨ (l ≠ [] ∧ underP K 129 (txtI root) (halves key) l = some (v, []))) := by
  unfold checkP at h
  split at h
  · cases h
  · rename_i hs
    have hs : (sizesP root l && keyOk key) = true := by simpa using hs
    refine ⟨hs, ?_⟩
    cases l with
    | nil =>
      left
      rw [show ([] : List (List UInt8)).isEmpty = true from rfl, if_pos rfl] at h
      split at h
      · rename_i hr; cases h; exact ⟨rfl, hr, rfl⟩
      · cases h
    | cons s r =>
      right
      rw [show (s :: r).isEmpty = false from rfl, if_neg (by simp)] at h
      refine ⟨by simp, ?_⟩
      unfold foundP at h
      split at h
      · rename_i w hw
        cases h
        split at hw
        · rename_i u hu; cases hw; exact hu
        · cases hw
      · cases h
theorem decode_128 : decode [128] = (txtI [], 0) := rfl
theorem under_128 (root path : List UInt8) (l : List (List UInt8)) {v : List UInt8} {r : List (List UInt8)} (h : underP K 129 (txtI root) path ([128] :: l) = some (v, r)) : False := by
  unfold underP at h
  cases hn : nodeOf K (txtI root) ([128] :: l) with
  | none => rw [hn] at h; cases h
  | some q =>
    obtain ⟨x, rest⟩ := q
    obtain ⟨h1, h2⟩ := node_node K hn
    unfold openP at h2
    rw [if_neg (by simp [txtI, Item.isList])] at h2
    dsimp only at h2
    split at h2
    · cases h2
      rw [decode_128] at h1
      rw [isNodeP_text] at h1
      cases h1
    · cases h2
/-- what opens a list of texts has its digest -/
theorem under_head {f : Nat} {root path s : List UInt8} {l : List (List UInt8)} {v : List UInt8} {r : List (List UInt8)} (h : underP K (f + 1) (txtI root) path (s :: l) = some (v, r)) : K s = root := by
  unfold underP at h
  cases hn : nodeOf K (txtI root) (s :: l) with
  | none => rw [hn] at h; cases h
  | some q =>
    obtain ⟨x, rest⟩ := q
    have h2 := (node_node K hn).2
    unfold openP at h2
    rw [if_neg (by simp [txtI, Item.isList])] at h2
    dsimp only at h2
    split at h2
    · rename_i hc; exact hc.1
    · cases h2
/-- ProofOnly -/
theorem check_two {root key : List UInt8} {l m : List (List UInt8)} {v w : List UInt8} (h : checkP K root key l = (v, 0)) (h2 : checkP K root key m = (w, 0)) : v = w ∨ Clash K (([128] :: l) ++ m) := by
  obtain ⟨-, h3⟩ := check_ok h
  obtain ⟨-, h4⟩ := check_ok h2
  have hone : ∀ {n : List (List UInt8)} {u : List UInt8}, n ≠ [] → root = K [128] → underP K 129 (txtI root) (halves key) n = some (u, []) → ∃ b ∈ n, ([128] : List UInt8) ≠ b ∧ K [128] = K b := fun {n u} hn hr hu => by
    cases n with
    | nil => exact absurd rfl hn
    | cons s r =>
      refine ⟨s, List.mem_cons_self, fun e => ?_, ?_⟩
      · subst e; exact under_128 _ _ _ hu
      · rw [under_head hu, ← hr]
  rcases h3 with ⟨rfl, hr, rfl⟩ | ⟨hl, hu⟩
  · rcases h4 with ⟨rfl, _, rfl⟩ | ⟨hm, hu2⟩
    · exact .inl rfl
    · obtain ⟨b, hb, h5, h6⟩ := hone hm hr hu2
      exact .inr ⟨_, List.mem_append_left _ List.mem_cons_self, b, List.mem_append_right _ hb, h5, h6⟩
  · rcases h4 with ⟨rfl, hr, rfl⟩ | ⟨hm, hu2⟩
    · obtain ⟨b, hb, h5, h6⟩ := hone hl hr hu
      exact .inr ⟨_, List.mem_append_left _ List.mem_cons_self, b, List.mem_append_left _ (List.mem_cons_of_mem _ hb), h5, h6⟩
    · rcases under_two K _ _ _ _ _ hu hu2 with h5 | ⟨a, ha, b, hb, h6⟩
      · exact .inl h5
      · exact .inr ⟨a, List.mem_append_left _ (List.mem_cons_of_mem _ ha), b, List.mem_append_right _ hb, h6⟩
theorem sizes_append {root : List UInt8} {l m : List (List UInt8)} : sizesP root (l ++ m) = true ↔ (∀ s ∈ l, s.length ≤ 65536) ∧ (∀ s ∈ m, s.length ≤ 65536) ∧ root.length = 32 ∧ l.length + m.length ≤ 140 := by
  unfold sizesP
  rw [List.all_append, List.length_append]
  simp only [Bool.and_eq_true, List.all_eq_true, decide_eq_true_eq]
  constructor
  · rintro ⟨⟨h1, h2⟩, h3, h4⟩; exact ⟨h1, h2, h3, h4⟩
  · rintro ⟨h1, h2, h3, h4⟩; exact ⟨⟨h1, h2⟩, h3, h4⟩
/-- ProofShort: without the last text, and with one more -/
theorem check_less {root key s : List UInt8} {l : List (List UInt8)} {v : List UInt8} (h : checkP K root key (l ++ [s]) = (v, 0)) (hl : l ≠ []) : checkP K root key l = ([], 70) := by
  obtain ⟨hs, h2⟩ := check_ok h
  rcases h2 with ⟨h2, _⟩ | ⟨_, hu⟩
  · simp at h2
  · rw [Bool.and_eq_true] at hs
    obtain ⟨a1, _, a3, a4⟩ := sizes_append.1 hs.1
    have hs2 : (sizesP root l && keyOk key) = true := by
      rw [hs.2, Bool.and_true]
      have := (sizes_append (root := root) (l := l) (m := [])).2 ⟨a1, (fun x hx => by cases hx), a3, by simp; omega⟩
      rwa [List.append_nil] at this
    obtain ⟨t, r, rfl⟩ : ∃ t r, l = t :: r := by cases l with
      | nil => exact absurd rfl hl
      | cons t r => exact ⟨t, r, rfl⟩
    rw [check_some hs2]
    have hf : foundP K root (halves key) (t :: r) = none := by
      unfold foundP
      split
      · rename_i w hw
        have h5 := under_more K _ _ _ _ [s] hw
        rw [h5] at hu
        cases hu
      · rfl
    rw [hf]
theorem check_more {root key s : List UInt8} {l : List (List UInt8)} {v : List UInt8} (h : checkP K root key l = (v, 0)) (hl : l ≠ []) (hs : s.length ≤ 65536) (hn : l.length < 140) : checkP K root key (l ++ [s]) = ([], 70) := by
  obtain ⟨hz, h2⟩ := check_ok h
  rcases h2 with ⟨h2, _⟩ | ⟨_, hu⟩
  · exact absurd h2 hl
  · rw [Bool.and_eq_true] at hz
    obtain ⟨a1, _, a3, a4⟩ := (sizes_append (root := root) (l := l) (m := [])).1 (by rw [List.append_nil]; exact hz.1)
    have hs2 : (sizesP root (l ++ [s]) && keyOk key) = true := by
      rw [hz.2, Bool.and_true]
      exact sizes_append.2 ⟨a1, (fun x hx => by rw [List.mem_singleton] at hx; rw [hx]; exact hs), a3, by simp; omega⟩
    have h5 := under_more K _ _ _ _ [s] hu
    obtain ⟨t, r, rfl⟩ : ∃ t r, l = t :: r := by cases l with
      | nil => exact absurd rfl hl
      | cons t r => exact ⟨t, r, rfl⟩
    rw [List.cons_append] at hs2 h5 ⊢
    rw [check_some hs2]
    have hf : foundP K root (halves key) (t :: (r ++ [s])) = none := by
      unfold foundP
      rw [h5]
      rfl
    rw [hf]
/-! texts within texts -/
theorem contains_mid (u t v : List UInt8) : Lib.contains (u ++ (t ++ v)) t = true := by
  unfold Lib.contains
  rcases Lib.index_spec (u ++ (t ++ v)) t with ⟨_, h⟩ | ⟨i, h, _⟩
  · have h1 := h u.length (by simp)
    have h2 : Lib.occAt (u ++ (t ++ v)) t u.length = true := by
      unfold Lib.occAt
      rw [List.drop_left, List.isPrefixOf_iff_prefix]
      exact List.prefix_append _ _
    rw [h2] at h1
    cases h1
  · rw [h]
    simp
theorem contains_in {t a : List UInt8} (h : t <:+: a) : Lib.contains a t = true := by
  obtain ⟨u, v, rfl⟩ := h
  rw [List.append_assoc]
  exact contains_mid u t v
theorem infix_putAll {l : List Item} {y : Item} (h : y ∈ l) : put y <:+: putAll l := by
  induction l with
  | nil => cases h
  | cons a r ih =>
    rw [putAll]
    rcases List.mem_cons.1 h with rfl | h
    · exact (List.prefix_append _ _).isInfix
    · exact (ih h).trans (List.suffix_append _ _).isInfix
theorem infix_framed (s : List UInt8) (b : Nat) : s <:+: framed s b := by
  unfold framed
  split
  · exact (List.suffix_cons _ _).isInfix
  · refine List.IsInfix.trans ?_ (List.suffix_cons _ _).isInfix
    exact (List.suffix_append _ _).isInfix
theorem infix_text (t : List UInt8) : t <:+: putText t := by
  unfold putText
  split
  · exact List.infix_rfl
  · exact infix_framed _ _
theorem infix_child {x y : Item} (hx : x.isList = true) (h : y ∈ x.list) : put y <:+: put x := by
  cases x with
  | mk b t l =>
    cases b with
    | false => cases hx
    | true => exact (infix_putAll h).trans (infix_framed _ _)
theorem step_mem {x y : Item} {path p : List UInt8} (hx : isNodeP x = true) (h : stepP x path = .next y p) (hp : isPath path = true) : y ∈ x.list ∧ x.isList = true := by
  have hl : x.isList = true := by rw [isNodeP_eq] at hx; exact (Bool.and_eq_true_iff.1 hx).1
  refine ⟨?_, hl⟩
  have hget : ∀ i, i < x.list.length → x.list.getD i .none ∈ x.list := fun i hi => by
    rw [List.getD_eq_getElem?_getD, List.getElem?_eq_getElem hi]
    exact List.getElem_mem _
  unfold stepP at h
  by_cases h17 : x.list.length = 17
  · rw [if_pos h17] at h
    cases path with
    | nil => cases h
    | cons a t =>
      dsimp only at h
      have ha := isPath_at hp (i := 0) (x := a) rfl
      split at h
      · cases h
      · cases h
        exact hget _ (by omega)
  · rw [if_neg h17] at h
    rw [isNodeP_eq, if_neg h17] at hx
    simp only [Bool.and_eq_true, decide_eq_true_eq] at hx
    split at h
    · cases h
    · split at h
      · cases h
        exact hget 1 (by omega)
      · cases h
theorem lead_under (f : Nat) (ref : Item) (path : List UInt8) (l : List (List UInt8)) (ahead : List UInt8) {v : List UInt8} (hp : isPath path = true) (h : underP K f ref path l = some (v, []))
    (ha : (ref.isList = true ∧ put ref <:+: ahead) ∨ (ref.isList = false ∧ ref.text <:+: ahead)) (hl : ∀ s ∈ l, s.length ≤ 65536) : leadL K ahead l = l := by
  induction f generalizing ref path l ahead with
  | zero => cases h
  | succ f ih =>
    unfold underP at h
    cases hn : nodeOf K ref l with
    | none => rw [hn] at h; cases h
    | some q =>
      obtain ⟨x, rest⟩ := q
      rw [hn] at h
      dsimp only at h
      obtain ⟨h1, h2⟩ := node_node K hn
      have hgo : ∀ ah, put x <:+: ah → leadL K ah rest = rest := fun ah hah => by
        cases hs : stepP x path with
        | stop w => rw [hs] at h; cases h; rfl
        | next y p =>
          rw [hs] at h
          dsimp only at h
          obtain ⟨h3, h4⟩ := step_mem h1 hs hp
          have h5 := (infix_child h4 h3).trans hah
          have h6 := (step_short h1 hs).2 hp
          have hsub : ∀ s ∈ rest, s.length ≤ 65536 := fun s hs2 => by
            unfold openP at h2
            split at h2
            · cases h2; exact hl s hs2
            · cases l with
              | nil => cases h2
              | cons a r =>
                dsimp only at h2
                split at h2
                · cases h2; exact hl s (List.mem_cons_of_mem _ hs2)
                · cases h2
          cases hy : y.isList with
          | true => exact ih y p rest ah h6 h (.inl ⟨hy, h5⟩) hsub
          | false =>
            refine ih y p rest ah h6 h (.inr ⟨hy, ?_⟩) hsub
            cases y with
            | mk b t l2 =>
              cases hy
              exact (infix_text t).trans h5
      unfold openP at h2
      split at h2
      · rename_i hlst
        cases h2
        rcases ha with ⟨_, ha⟩ | ⟨ha, _⟩
        · exact hgo ahead ha
        · rw [ha] at hlst; cases hlst
      · rename_i hlst
        cases l with
        | nil => cases h2
        | cons s r =>
          dsimp only at h2
          split at h2
          · rename_i hc
            cases h2
            rcases ha with ⟨ha, _⟩ | ⟨_, ha⟩
            · exact absurd ha hlst
            · unfold leadL
              rw [hc.1, if_pos (contains_in ha)]
              congr 1
              refine hgo s ?_
              have hd : decode s = ((decode s).1, 0) := Prod.ext rfl hc.2
              have he := encode_decode hd
              rw [← (encode_ok he).1]
              exact List.infix_rfl
          · cases h2
/-- ProofLeads -/
theorem check_lead {root key : List UInt8} {l : List (List UInt8)} {v : List UInt8} (h : checkP K root key l = (v, 0)) : leadP K root l = (l, 0) := by
  obtain ⟨hs, h2⟩ := check_ok h
  rw [Bool.and_eq_true] at hs
  obtain ⟨a1, _⟩ := (sizes_append (root := root) (l := l) (m := [])).1 (by rw [List.append_nil]; exact hs.1)
  unfold leadP
  rw [if_pos hs.1]
  congr 1
  rcases h2 with ⟨rfl, _⟩ | ⟨_, hu⟩
  · rfl
  · exact lead_under _ _ _ _ root (isPath_halves key) hu (.inr ⟨rfl, List.infix_rfl⟩) a1
theorem leadL_len : ∀ (l : List (List UInt8)) (a : List UInt8), (leadL K a l).length ≤ l.length
  | [], _ => Nat.le_refl _
  | s :: r, a => by
    unfold leadL
    split
    · have := leadL_len r s
      simp only [List.length_cons]
      omega
    · simp
theorem lead_len (root : List UInt8) (l : List (List UInt8)) : (leadP K root l).1.length ≤ l.length := by
  unfold leadP
  split
  · exact leadL_len l root
  · simp
end
/-! checks of pairs -/
theorem right_mem {ps : List PairD} : ∀ {seen : List PairD}, rightFrom seen ps = true → ∀ q ∈ ps, okPair q = true := by
  induction ps with
  | nil => intro seen _ q hq; cases hq
  | cons a r ih =>
    intro seen h q hq
    unfold rightFrom at h
    simp only [Bool.and_eq_true] at h
    rcases List.mem_cons.1 hq with rfl | hq
    · exact h.1
    · exact ih h.2.2 q hq
theorem right_valid {ps : List PairD} (h : rightP ps = true) (hne : ps ≠ []) : Valid ps 0 ∧ Fair ps := by
  unfold rightP at h
  rw [Bool.and_eq_true] at h
  have hm := right_mem h.2
  refine ⟨⟨hne, fun q hq => ⟨Nat.zero_le _, ?_⟩⟩, fun q hq => ?_⟩
  · have h1 := hm q hq
    unfold okPair at h1
    simp only [Bool.and_eq_true, decide_eq_true_eq] at h1
    show (halves q.1).length ≤ 128
    rw [halves_length]
    omega
  · have h1 := hm q hq
    unfold okPair at h1
    simp only [Bool.and_eq_true, decide_eq_true_eq] at h1
    exact ⟨fun e => by rw [e] at h1; simp at h1, h1.2.2.2⟩
section
variable {K : List UInt8 → List UInt8}
theorem root_cons {ps : List PairD} (h : ps ≠ []) : rootP K ps = K (bytesP K 129 ps 0) := by
  cases ps with
  | nil => exact absurd rfl h
  | cons q r => rfl
theorem told_len (hK : ∀ s, (K s).length = 32) (f : Nat) (ps : List PairD) (d : Nat) (hv : Valid ps d) (hr : Fair ps) (hf : 129 ≤ d + f) : ∀ s ∈ toldP K f ps d, s.length ≤ 20000 := fun s hs => by
  obtain ⟨b, hfit⟩ := node_fit (K := K) hK f ps d hv hr hf
  unfold toldP at hs
  split at hs
  · rw [List.mem_singleton] at hs
    rw [hs]
    unfold bytesP
    rw [hfit.encode]
    exact hfit.short
  · cases hs
theorem told_one (f : Nat) (ps : List PairD) (d : Nat) : (toldP K f ps d).length ≤ 1 := by
  unfold toldP
  split <;> simp
theorem way_len (hK : ∀ s, (K s).length = 32) (f : Nat) (ps : List PairD) (d : Nat) (path : List UInt8) (hv : Valid ps d) (hr : Fair ps) (hf : 129 ≤ d + f) (hp : isPath path = true) (hd : d ≤ path.length) (ha : Along ps d path) :
    (wayP K f ps d path).length ≤ f ∧ ∀ s ∈ wayP K f ps d path, s.length ≤ 20000 := by
  induction f generalizing ps d with
  | zero => have := valid_le hv; omega
  | succ f ih =>
    have h1 := told_one (K := K) (f + 1) ps d
    have h2 := told_len hK (f + 1) ps d hv hr hf
    rw [way_tail, List.length_append]
    rcases step_node (K := K) hK f ps d path hv hr hf hp hd ha with ⟨_, h3⟩ | ⟨ps', d', _, h3, _, _, hv', hr', ha', h4, h5⟩
    · rw [h3]
      exact ⟨by simp; omega, fun s hs => h2 s (by simpa using hs)⟩
    · rw [h3]
      obtain ⟨h6, h7⟩ := ih ps' d' hv' hr' (by omega) h5 ha'
      refine ⟨by omega, fun s hs => ?_⟩
      rcases List.mem_append.1 hs with hs | hs
      · exact h2 s hs
      · exact h7 s hs
theorem along_zero (ps : List PairD) (path : List UInt8) : Along ps 0 path := fun _ _ => by simp
theorem way_ne (f : Nat) (ps : List PairD) (path : List UInt8) : ∃ t, wayP K (f + 1) ps 0 path = bytesP K (f + 1) ps 0 :: t := by
  rw [way_tail]
  unfold toldP
  rw [if_pos (.inl rfl)]
  exact ⟨_, rfl⟩
/-- ProofHonest: the way of a key proves what the pairs have there; nothing, with a text more -/
theorem check_way (hK : ∀ s, (K s).length = 32) {ps : List PairD} {key : List UInt8} (h : rightP ps = true) (hne : ps ≠ []) (hk : keyOk key = true) (more : List (List UInt8)) (hm : ∀ s ∈ more, s.length ≤ 65536) (hm2 : more.length ≤ 11) :
    checkP K (rootP K ps) key (wayP K 129 ps 0 (halves key) ++ more) = if more = [] then (lookupP ps (halves key), 0) else ([], 70) := by
  obtain ⟨hv, hr⟩ := right_valid h hne
  have hkl : (halves key).length ≤ 128 := by
    unfold keyOk at hk
    simp only [Bool.and_eq_true, decide_eq_true_eq] at hk
    rw [halves_length]; omega
  have hw := way_len (K := K) hK 129 ps 0 (halves key) hv hr (by omega) (isPath_halves key) (Nat.zero_le _) (along_zero _ _)
  have hh := honest (K := K) hK 129 ps 0 (halves key) hv hr (by omega) (isPath_halves key) (Nat.zero_le _) (along_zero _ _) 129 (by omega) more
  unfold topP at hh
  rw [if_pos rfl, List.drop_zero, ← root_cons (K := K) hne] at hh
  have hs : (sizesP (rootP K ps) (wayP K 129 ps 0 (halves key) ++ more) && keyOk key) = true := by
    rw [hk, Bool.and_true]
    exact sizes_append.2 ⟨fun s hs => by have := hw.2 s hs; omega, hm, by rw [root_cons (K := K) hne, hK], by omega⟩
  obtain ⟨t, ht⟩ := way_ne (K := K) 128 ps (halves key)
  have ht : wayP K 129 ps 0 (halves key) = bytesP K 129 ps 0 :: t := ht
  rw [ht] at hh hs ⊢
  rw [List.cons_append] at hh hs ⊢
  rw [check_some hs]
  unfold foundP
  rw [hh]
  cases more with
  | nil => rfl
  | cons a r => rfl
/-- the same, of no pairs -/
theorem check_way_none (hK : ∀ s, (K s).length = 32) {key : List UInt8} (hk : keyOk key = true) : checkP K (rootP K []) key [] = ([], 0) := by
  rw [check_none (by rw [hk, Bool.and_true]; unfold sizesP; rw [show rootP K [] = K [128] from rfl, hK]; rfl)]
  rw [if_pos (show rootP K [] = K [128] from rfl)]
/-- ProofSound -/
theorem check_sound (hK : ∀ s, (K s).length = 32) {ps : List PairD} {key : List UInt8} {m : List (List UInt8)} {v : List UInt8} (h : rightP ps = true) (hc : checkP K (rootP K ps) key m = (v, 0)) :
    v = lookupP ps (halves key) ∨ Clash K (([128] :: (match ps with | [] => [] | _ => nodesP K 129 ps 0)) ++ m) := by
  obtain ⟨hs, h2⟩ := check_ok hc
  by_cases hne : ps = []
  · subst hne
    rcases h2 with ⟨_, _, rfl⟩ | ⟨hm, hu⟩
    · exact .inl rfl
    · cases m with
      | nil => exact absurd rfl hm
      | cons s r =>
        refine .inr ⟨[128], List.mem_append_left _ List.mem_cons_self, s, List.mem_append_right _ List.mem_cons_self, fun e => ?_, (under_head hu).symm⟩
        subst e
        exact under_128 _ _ _ hu
  · obtain ⟨hv, hr⟩ := right_valid h hne
    obtain ⟨q, r, rfl⟩ : ∃ q r, ps = q :: r := by cases ps with
      | nil => exact absurd rfl hne
      | cons q r => exact ⟨q, r, rfl⟩
    dsimp only
    have hin : bytesP K 129 (q :: r) 0 ∈ nodesP K 129 (q :: r) 0 := by
      rw [show nodesP K 129 (q :: r) 0 = toldP K 129 (q :: r) 0 ++ nodesTail K 128 (q :: r) 0 from nodes_tail K 128 (q :: r) 0]
      unfold toldP
      rw [if_pos (.inl rfl)]
      simp
    rcases h2 with ⟨rfl, hroot, rfl⟩ | ⟨hm, hu⟩
    · right
      obtain ⟨b, hfit⟩ := node_fit (K := K) hK 129 _ 0 hv hr (by omega)
      refine ⟨[128], List.mem_append_left _ List.mem_cons_self, bytesP K 129 (q :: r) 0, List.mem_append_left _ (List.mem_cons_of_mem _ hin), fun e => ?_, hroot.symm.trans (by rw [root_cons (K := K) hne])⟩
      have hd := decode_encode hfit.encode
      have hby : bytesP K 129 (q :: r) 0 = put (nodeP K 129 (q :: r) 0) := by unfold bytesP; rw [hfit.encode]
      rw [← hby, ← e, decode_128] at hd
      have hnode := hfit.node
      rw [show nodeP K 129 (q :: r) 0 = txtI [] from (congrArg Prod.fst hd).symm, isNodeP_text] at hnode
      cases hnode
    · have hu2 : underP K 129 (topP K 129 (q :: r) 0) ((halves key).drop 0) m = some (v, []) := by
        unfold topP
        rw [if_pos rfl, List.drop_zero, ← root_cons (K := K) hne]
        exact hu
      rcases sound (K := K) hK 129 (q :: r) 0 (halves key) hv hr (by omega) (isPath_halves key) (Nat.zero_le _) (along_zero _ _) 129 m hu2 with h3 | ⟨a, ha, b, hb, h4⟩
      · exact .inl h3
      · exact .inr ⟨a, List.mem_append_left _ (List.mem_cons_of_mem _ ha), b, List.mem_append_right _ hb, h4⟩
end
/-- what pairs have at a key -/
def plainP : List PairD → List UInt8 → List UInt8 × Bool
  | [], _ => ([], false)
  | q :: r, key => if q.1 = key then (q.2, true) else plainP r key
theorem plain_lookup {ps : List PairD} (hf : Fair ps) (key : List UInt8) : plainP ps key = (lookupP ps (halves key), !(lookupP ps (halves key)).isEmpty) := by
  induction ps with
  | nil => rfl
  | cons q r ih =>
    unfold plainP lookupP
    by_cases e : q.1 = key
    · rw [if_pos e, if_pos (by unfold pth; rw [e])]
      have := (hf q List.mem_cons_self).1
      cases h : q.2 with
      | nil => exact absurd h this
      | cons a l => rfl
    · rw [if_neg e, if_neg (fun h : pth q = halves key => e (halves_inj h))]
      exact ih fun x hx => hf x (List.mem_cons_of_mem _ hx)
end Go.Proofs.YthicdhnjincflaaDoor
