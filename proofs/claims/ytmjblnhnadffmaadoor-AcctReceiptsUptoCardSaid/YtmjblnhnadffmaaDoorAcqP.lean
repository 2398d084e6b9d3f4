/- Plain: which account an item is, or that it is none; an account's item is read as it was, and what is read is written so again. -/
import Derived.Test.YtmjblnhnadffmaaDoorRctP
import Derived.Test.YtmjblnhnadffmaaDoorAccF
namespace Go.Proofs.YtmjblnhnadffmaaDoor
open Go.RowKit Go.Shelf Go.Lib

def acctShape (x : Item) (ce : Int) : Bool := decide (ce = 0) && (textsB x && decide (x.list.length = 4))
def aT (x : Item) (i : Nat) : List UInt8 := (x.list.getD i Item.none).text
def acctNums (x : Item) : Bool := decide ((value (aT x 0)).2 = 0) && (isShortW (aT x 1) && (decide ((aT x 2).length = 32) && decide ((aT x 3).length = 32)))
def acctB (x : Item) (ce : Int) : Bool := acctShape x ce && acctNums x
theorem aT_four (a b c d : List UInt8) : aT (.mk true [] [.mk false a [], .mk false b [], .mk false c [], .mk false d []]) 0 = a ∧ aT (.mk true [] [.mk false a [], .mk false b [], .mk false c [], .mk false d []]) 1 = b ∧ aT (.mk true [] [.mk false a [], .mk false b [], .mk false c [], .mk false d []]) 2 = c ∧ aT (.mk true [] [.mk false a [], .mk false b [], .mk false c [], .mk false d []]) 3 = d := ⟨rfl, rfl, rfl, rfl⟩
theorem acct_back (n b : Nat) {root code : List UInt8} (hn : n < 18446744073709551616) (hb : b < 256 ^ 32) (hr : root.length = 32) (hc : code.length = 32) :
    acctB (acctItem n b root code) 0 = true ∧ (value (aT (acctItem n b root code) 0)).1 = n ∧ wordOf (aT (acctItem n b root code) 1) = b ∧ aT (acctItem n b root code) 2 = root ∧ aT (acctItem n b root code) 3 = code := by
  have e0 : aT (acctItem n b root code) 0 = num n := (aT_four (num n) (shortW b) root code).1
  have e1 : aT (acctItem n b root code) 1 = shortW b := (aT_four (num n) (shortW b) root code).2.1
  have e2 : aT (acctItem n b root code) 2 = root := (aT_four (num n) (shortW b) root code).2.2.1
  have e3 : aT (acctItem n b root code) 3 = code := (aT_four (num n) (shortW b) root code).2.2.2
  have hs : isShortW (shortW b) = true := isShortW_iff.2 ⟨shortW_length b, shortW_head b⟩
  refine ⟨?_, by rw [e0, value_num hn], by rw [e1, wordOf_shortW hb], e2, e3⟩
  unfold acctB acctNums
  rw [e0, e1, e2, e3, value_num hn, hs, decide_eq_true hr, decide_eq_true hc]
  rfl
theorem getD4 {α : Type} {l : List α} (z : α) (h : l.length = 4) : l = [l.getD 0 z, l.getD 1 z, l.getD 2 z, l.getD 3 z] := by
  match l, h with
  | [a, b, c, d], _ => rfl
theorem acct_rev {x : Item} (h : wrong x = false) (hb : acctB x 0 = true) : acctItem (value (aT x 0)).1 (wordOf (aT x 1)) (aT x 2) (aT x 3) = x := by
  unfold acctB acctShape textsB acctNums at hb
  simp only [Bool.and_eq_true, decide_eq_true_eq] at hb
  obtain ⟨⟨-, ⟨h1, h2⟩, h3⟩, a1, a2, a3, a4⟩ := hb
  obtain ⟨e1, e2⟩ := wrong_lst h h2
  have e3 := getD4 Item.none h3
  have hx : ∀ i, i < 4 → Item.mk false (aT x i) [] = x.list.getD i Item.none := fun i hi => by
    have hm : x.list.getD i Item.none ∈ x.list := by
      rw [List.getD_eq_getElem?_getD, List.getElem?_eq_getElem (by omega)]
      exact List.getElem_mem _
    unfold allText at h1
    rw [List.all_eq_true] at h1
    exact (wrong_txt (wrongs_mem e2 hm) (by simpa using h1 _ hm)).symm
  obtain ⟨b1, b2⟩ := isShortW_iff.1 a2
  unfold acctItem
  rw [value_back a1, shortW_wordOf b1 b2, hx 0 (by omega), hx 1 (by omega), hx 2 (by omega), hx 3 (by omega), ← e3, ← e1]
theorem acct_rev_len {x : Item} (hb : acctB x 0 = true) : (aT x 2).length = 32 ∧ (aT x 3).length = 32 := by
  unfold acctB acctNums at hb
  simp only [Bool.and_eq_true, decide_eq_true_eq] at hb
  exact ⟨hb.2.2.2.1, hb.2.2.2.2⟩
end Go.Proofs.YtmjblnhnadffmaaDoor
