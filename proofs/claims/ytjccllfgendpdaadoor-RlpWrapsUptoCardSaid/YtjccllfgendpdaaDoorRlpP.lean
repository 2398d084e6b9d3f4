/- Plain items, their bytes, and the items of bytes: no program is named. -/
import Derived.Test.YtjccllfgendpdaaDoorNumP
namespace Go.Proofs.YtjccllfgendpdaaDoor
open Go.RowKit

/-- an item: a text, or a list -/
inductive Item where
  | mk (isList : Bool) (text : List UInt8) (list : List Item)
def Item.isList : Item → Bool | .mk b _ _ => b
def Item.text : Item → List UInt8 | .mk _ t _ => t
def Item.list : Item → List Item | .mk _ _ l => l
def Item.none : Item := .mk false [] []

/-- a head ahead of bytes -/
def framed (s : List UInt8) (base : Nat) : List UInt8 :=
  if s.length < 56 then UInt8.ofNat (base + s.length) :: s else UInt8.ofNat (base + 55 + (num s.length).length) :: (num s.length ++ s)
def putText (t : List UInt8) : List UInt8 := if t.length = 1 ∧ (t.headD 0).toNat < 128 then t else framed t 128

mutual
def put : Item → List UInt8
  | .mk b t l => if b then framed (putAll l) 192 else putText t
def putAll : List Item → List UInt8
  | [] => []
  | x :: r => put x ++ putAll r
end
mutual
def deep : Item → Nat → Bool
  | .mk _ _ l, m => if m = 0 then true else deepAny l (m - 1)
def deepAny : List Item → Nat → Bool
  | [], _ => false
  | x :: r, m => deep x m || deepAny r m
end
mutual
def wrong : Item → Bool
  | .mk b t l => if b then (!t.isEmpty || wrongAny l) else !l.isEmpty
def wrongAny : List Item → Bool
  | [] => false
  | x :: r => wrong x || wrongAny r
end
mutual
def same : Item → Item → Bool
  | .mk b t l, y => b == y.isList && t == y.text && sameAll l y.list
def sameAll : List Item → List Item → Bool
  | [], r => r.isEmpty
  | _ :: _, [] => false
  | x :: l, y :: r => same x y && sameAll l r
end
/-- an item's bytes, and the error -/
def encode (x : Item) : List UInt8 × Int :=
  if deep x 12 then ([], 41) else if wrong x then ([], 2) else if (put x).length > 65536 then ([], 42) else (put x, 0)

/-- the first item's inside, whether it is a list, and what is behind it -/
def cut : List UInt8 → Option (List UInt8 × Bool × List UInt8)
  | [] => Option.none
  | c :: rest =>
    if c.toNat < 128 then some ([c], false, rest)
    else if (c.toNat - 128) % 64 > 55 then
      if (c.toNat - 128) % 64 - 55 > rest.length then Option.none
      else if (value (rest.take ((c.toNat - 128) % 64 - 55))).2 ≠ 0 ∨ (value (rest.take ((c.toNat - 128) % 64 - 55))).1 < 56 then Option.none
      else if (value (rest.take ((c.toNat - 128) % 64 - 55))).1 > (rest.drop ((c.toNat - 128) % 64 - 55)).length then Option.none
      else some ((rest.drop ((c.toNat - 128) % 64 - 55)).take (value (rest.take ((c.toNat - 128) % 64 - 55))).1, decide (192 ≤ c.toNat), (rest.drop ((c.toNat - 128) % 64 - 55)).drop (value (rest.take ((c.toNat - 128) % 64 - 55))).1)
    else if (c.toNat - 128) % 64 > rest.length then Option.none
    else if c.toNat < 192 ∧ (c.toNat - 128) % 64 = 1 ∧ (rest.headD 0).toNat < 128 then Option.none
    else some (rest.take ((c.toNat - 128) % 64), decide (192 ≤ c.toNat), rest.drop ((c.toNat - 128) % 64))

theorem cut_short {s inn rest : List UInt8} {b : Bool} (h : cut s = some (inn, b, rest)) : rest.length < s.length ∧ inn.length ≤ s.length ∧ (b = true → inn.length < s.length) := by
  cases s with
  | nil => simp [cut] at h
  | cons c r =>
    rw [cut] at h
    split at h
    · simp only [Option.some.injEq, Prod.mk.injEq] at h
      obtain ⟨rfl, rfl, rfl⟩ := h
      simp
    · split at h
      · split at h
        · simp at h
        · split at h
          · simp at h
          · split at h
            · simp at h
            · simp only [Option.some.injEq, Prod.mk.injEq] at h
              obtain ⟨rfl, _, rfl⟩ := h
              simp only [List.length_take, List.length_drop, List.length_cons]
              omega
      · split at h
        · simp at h
        · split at h
          · simp at h
          · simp only [Option.some.injEq, Prod.mk.injEq] at h
            obtain ⟨rfl, _, rfl⟩ := h
            simp only [List.length_take, List.length_drop, List.length_cons]
            omega

/-- items, one behind the other -/
def parse : Nat → List UInt8 → Option (List Item)
  | 0, _ => Option.none
  | f + 1, s =>
    if s = [] then some []
    else match cut s with
      | Option.none => Option.none
      | some (inn, b, rest) =>
        match (if b then (parse f inn).map (Item.mk true []) else some (Item.mk false inn [])) with
        | Option.none => Option.none
        | some x => (parse f rest).map (x :: ·)
theorem parse_fuel (f g : Nat) (s : List UInt8) (hf : s.length < f) (hg : s.length < g) : parse f s = parse g s := by
  induction f generalizing g s with
  | zero => omega
  | succ f ih =>
    cases g with
    | zero => omega
    | succ g =>
      unfold parse
      split
      · rfl
      · rename_i hne
        cases hc : cut s with
        | none => rfl
        | some q =>
          obtain ⟨inn, b, rest⟩ := q
          have hs := cut_short hc
          dsimp only
          cases b with
          | false =>
            rw [ih g rest (by omega) (by omega)]
            rfl
          | true =>
            have := hs.2.2 rfl
            rw [ih g inn (by omega) (by omega), ih g rest (by omega) (by omega)]
def all (s : List UInt8) : Option (List Item) := parse (s.length + 1) s
/-- the first item, and what is behind it -/
def first (s : List UInt8) : Option (Item × List UInt8) :=
  match cut s with
  | Option.none => Option.none
  | some (inn, b, rest) => if b then (all inn).map fun l => (Item.mk true [] l, rest) else some (Item.mk false inn [], rest)
theorem all_nil : all [] = some [] := rfl
theorem all_step {s : List UInt8} (h : s ≠ []) : all s = match first s with
    | Option.none => Option.none
    | some (x, rest) => (all rest).map (x :: ·) := by
  unfold all first
  conv => lhs; unfold parse
  rw [if_neg h]
  cases hc : cut s with
  | none => rfl
  | some q =>
    obtain ⟨inn, b, rest⟩ := q
    have hs := cut_short hc
    dsimp only
    cases b with
    | false =>
      simp only [Bool.false_eq_true, if_false]
      rw [parse_fuel s.length (rest.length + 1) rest (by omega) (by omega)]
    | true =>
      have := hs.2.2 rfl
      simp only [if_true]
      rw [parse_fuel s.length (inn.length + 1) inn (by omega) (by omega)]
      cases hi : parse (inn.length + 1) inn with
      | none =>
        have : all inn = Option.none := hi
        rw [this]; rfl
      | some l =>
        have : all inn = some l := hi
        rw [this]
        simp only [Option.map_some]
        rw [parse_fuel s.length (rest.length + 1) rest (by omega) (by omega)]
/-- the item of bytes, and the error -/
def decode (s : List UInt8) : Item × Int :=
  if s.length > 65536 then (.none, 42)
  else match all s with
    | some [x] => if deep x 12 then (.none, 41) else (x, 0)
    | _ => (.none, 40)
end Go.Proofs.YtjccllfgendpdaaDoor
