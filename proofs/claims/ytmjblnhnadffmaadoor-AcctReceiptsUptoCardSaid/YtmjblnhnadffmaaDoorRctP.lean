/- Plain: which receipt an item is, or that it is none; a receipt's item is read as it was, and what is read is written so again. -/
import Derived.Test.YtmjblnhnadffmaaDoorLogM
namespace Go.Proofs.YtmjblnhnadffmaaDoor
open Go.RowKit Go.Shelf Go.Lib

/-- the texts of items -/
def bytesT (y : Item) : ByteArray := ⟨y.text.toArray⟩
def logI (x : Item) : LogD := ⟨bytesT (x.list.getD 0 Item.none), (x.list.getD 1 Item.none).list.map bytesT, bytesT (x.list.getD 2 Item.none)⟩
/-- texts alone -/
def allText (l : List Item) : Bool := l.all fun y => !y.isList
/-- is an item a log's? -/
def shapeB (x : Item) : Bool := x.isList && (decide (x.list.length = 3) && (!(x.list.getD 0 Item.none).isList && (!(x.list.getD 2 Item.none).isList)))
def textsB (y : Item) : Bool := allText y.list && y.isList
def logB (x : Item) : Bool := (shapeB x && textsB (x.list.getD 1 Item.none)) && rightLog (logI x)
/-- has an item a receipt's shape? -/
def rcptShape (x : Item) (ce : Int) : Bool := decide (ce = 0) && (x.isList && (decide (x.list.length = 3) && (!(x.list.getD 0 Item.none).isList && (!(x.list.getD 1 Item.none).isList && (x.list.getD 2 Item.none).isList))))
def rI (x : Item) (i : Nat) : Item := x.list.getD i Item.none
/-- and its numbers, and how many logs there are? -/
def rcptNums (x : Item) : Bool := (decide ((value (rI x 0).text).2 = 0) && decide ((value (rI x 0).text).1 ≤ 1)) && (decide ((value (rI x 1).text).2 = 0) && decide ((rI x 2).list.length ≤ 20))
def rcptB (x : Item) (ce : Int) : Bool := rcptShape x ce && (rcptNums x && (rI x 2).list.all logB)
/-- what it is -/
def rcptGood (x : Item) : Bool := decide ((value (rI x 0).text).1 = 1)
def rcptGas (x : Item) : Nat := (value (rI x 1).text).1
def rcptLogs (x : Item) : List LogD := (rI x 2).list.map logI
theorem value_back {t : List UInt8} (h : (value t).2 = 0) : num (value t).1 = t := by
  unfold value at h ⊢
  split at h
  · simp at h
  · rename_i hn
    rw [if_neg hn]
    exact num_val (fun e => hn (.inr e)) (by omega)
theorem value_nil : value [] = (0, 0) := by decide
theorem value_one : value [1] = (1, 0) := by decide
theorem num_one : num 1 = [1] := by decide
theorem good_iff (t : List UInt8) : ((value t).2 = 0 ∧ (value t).1 ≤ 1) ↔ (t = [] ∨ t = [1]) := by
  constructor
  · rintro ⟨h1, h2⟩
    have := value_back h1
    rcases Nat.lt_or_ge (value t).1 1 with h | h
    · left
      rw [← this, show (value t).1 = 0 by omega, num_zero]
    · right
      rw [← this, show (value t).1 = 1 by omega, num_one]
  · rintro (rfl | rfl)
    · rw [value_nil]; exact ⟨rfl, by decide⟩
    · rw [value_one]; exact ⟨rfl, by decide⟩
theorem goodL_value (b : Bool) : value (goodL b) = (bif b then 1 else 0, 0) := by
  cases b
  · exact value_nil
  · exact value_one
theorem bytesT_textItem (t : ByteArray) : bytesT (textItem t) = t := rfl
theorem logI_logItem (l : LogD) : logI (logItem l) = l := by
  cases l with
  | mk a t d =>
    unfold logI logItem topsItem
    show LogD.mk _ ((t.map textItem).map bytesT) _ = _
    rw [List.map_map, show (bytesT ∘ textItem) = id from funext bytesT_textItem, List.map_id]
    rfl
theorem allText_tops (l : List ByteArray) : allText (l.map textItem) = true := by
  unfold allText
  rw [List.all_eq_true]
  intro y hy
  obtain ⟨t, _, rfl⟩ := List.mem_map.1 hy
  rfl
theorem logB_logItem (l : LogD) : logB (logItem l) = rightLog l := by
  unfold logB
  rw [logI_logItem]
  have h1 : shapeB (logItem l) = true := rfl
  have h2 : textsB ((logItem l).list.getD 1 Item.none) = true := by
    show (allText (l.tops.map textItem) && true) = true
    rw [allText_tops]; rfl
  rw [h1, h2]; rfl
/-- a receipt's item is read as it was -/
theorem rcpt_back (good : Bool) (gas : Nat) (ls : List LogD) (hg : gas < 18446744073709551616) (hr : rcptRight ls = true) :
    rcptB (rcptItem good gas ls) 0 = true ∧ rcptGood (rcptItem good gas ls) = good ∧ rcptGas (rcptItem good gas ls) = gas ∧ rcptLogs (rcptItem good gas ls) = ls := by
  have e0 : (rI (rcptItem good gas ls) 0).text = goodL good := rfl
  have e1 : (rI (rcptItem good gas ls) 1).text = num gas := rfl
  have e2 : (rI (rcptItem good gas ls) 2).list = ls.map logItem := rfl
  unfold rcptRight at hr
  rw [Bool.and_eq_true, decide_eq_true_eq] at hr
  obtain ⟨hr1, hr2⟩ := hr
  refine ⟨?_, ?_, ?_, ?_⟩
  · unfold rcptB
    have h1 : rcptShape (rcptItem good gas ls) 0 = true := rfl
    have h2 : rcptNums (rcptItem good gas ls) = true := by
      unfold rcptNums
      rw [e0, e1, e2, goodL_value, value_num hg, List.length_map]
      cases good <;> simp [hr2]
    rw [h1, h2, e2, List.all_map]
    show (true && (true && _)) = true
    rw [Bool.true_and, Bool.true_and, show (logB ∘ logItem) = rightLog from funext logB_logItem, hr1]
  · unfold rcptGood
    rw [e0, goodL_value]
    cases good <;> rfl
  · unfold rcptGas
    rw [e1, value_num hg]
  · unfold rcptLogs
    rw [e2, List.map_map, show (logI ∘ logItem) = id from funext logI_logItem, List.map_id]
/-- what is read is written so again -/
theorem wrongs_mem {l : List Item} (h : wrongAny l = false) {x : Item} (hx : x ∈ l) : wrong x = false := by
  rw [wrongAny_any, List.any_eq_false] at h
  simpa using h x hx
theorem wrong_lst {x : Item} (h : wrong x = false) (hl : x.isList = true) : x = .mk true [] x.list ∧ wrongAny x.list = false := by
  cases x with
  | mk b t l =>
    obtain rfl : b = true := hl
    rw [wrong_eq] at h
    rw [wrongAny_any]
    simp [Item.isList, Item.text, Item.list] at h
    refine ⟨by rw [h.1]; rfl, ?_⟩
    rw [List.any_eq_false]
    intro y hy
    simpa using h.2 y hy
theorem wrong_txt {x : Item} (h : wrong x = false) (hl : x.isList = false) : x = textItem (bytesT x) := by
  cases x with
  | mk b t l =>
    obtain rfl : b = false := hl
    rw [wrong_eq] at h
    simp [Item.isList, Item.list] at h
    rw [h]; rfl
theorem getD3 {α : Type} {l : List α} (z : α) (h : l.length = 3) : l = [l.getD 0 z, l.getD 1 z, l.getD 2 z] := by
  match l, h with
  | [a, b, c], _ => rfl
theorem mem3 {α : Type} {l : List α} (z : α) (h : l.length = 3) : l.getD 0 z ∈ l ∧ l.getD 1 z ∈ l ∧ l.getD 2 z ∈ l := by
  match l, h with
  | [a, b, c], _ => simp
theorem texts_rev {l : List Item} (h : wrongAny l = false) (ha : allText l = true) : (l.map bytesT).map textItem = l := by
  rw [List.map_map]
  refine (List.map_congr_left (fun y hy => ?_)).trans (List.map_id l)
  unfold allText at ha
  rw [List.all_eq_true] at ha
  exact (wrong_txt (wrongs_mem h hy) (by simpa using ha y hy)).symm
theorem log_rev {x : Item} (h : wrong x = false) (hb : logB x = true) : logItem (logI x) = x ∧ rightLog (logI x) = true := by
  unfold logB shapeB textsB at hb
  simp only [Bool.and_eq_true, Bool.not_eq_true', decide_eq_true_eq] at hb
  obtain ⟨⟨⟨h1, h2, h3, h4⟩, h5, h6⟩, h7⟩ := hb
  refine ⟨?_, h7⟩
  obtain ⟨e1, e2⟩ := wrong_lst h h1
  obtain ⟨m0, m1, m2⟩ := mem3 Item.none h2
  have e3 := getD3 Item.none h2
  have f0 := wrong_txt (wrongs_mem e2 m0) h3
  have f2 := wrong_txt (wrongs_mem e2 m2) h4
  obtain ⟨g1, g2⟩ := wrong_lst (wrongs_mem e2 m1) h6
  have f1 := texts_rev g2 h5
  have key : logItem (logI x) = .mk true [] [textItem (bytesT (x.list.getD 0 Item.none)), .mk true [] (((x.list.getD 1 Item.none).list.map bytesT).map textItem), textItem (bytesT (x.list.getD 2 Item.none))] := rfl
  rw [key, f1, ← f0, ← f2, ← g1, ← e3, ← e1]
theorem rcpt_rev {x : Item} (h : wrong x = false) (hb : rcptB x 0 = true) : rcptRight (rcptLogs x) = true ∧ rcptItem (rcptGood x) (rcptGas x) (rcptLogs x) = x := by
  unfold rcptB rcptShape rcptNums rI at hb
  simp only [Bool.and_eq_true, Bool.not_eq_true', decide_eq_true_eq] at hb
  obtain ⟨⟨-, h1, h2, h3, h4, h5⟩, ⟨⟨a1, a2⟩, a3, a4⟩, a5⟩ := hb
  obtain ⟨e1, e2⟩ := wrong_lst h h1
  obtain ⟨m0, m1, m2⟩ := mem3 Item.none h2
  have e3 := getD3 Item.none h2
  have f0 := wrong_txt (wrongs_mem e2 m0) h3
  have f1 := wrong_txt (wrongs_mem e2 m1) h4
  obtain ⟨g1, g2⟩ := wrong_lst (wrongs_mem e2 m2) h5
  have hL : ∀ y ∈ (x.list.getD 2 Item.none).list, logItem (logI y) = y ∧ rightLog (logI y) = true := fun y hy => by
    rw [List.all_eq_true] at a5
    exact log_rev (wrongs_mem g2 hy) (a5 y hy)
  refine ⟨?_, ?_⟩
  · unfold rcptRight rcptLogs rI
    rw [Bool.and_eq_true, decide_eq_true_eq, List.length_map, List.all_map, List.all_eq_true]
    exact ⟨fun y hy => (hL y hy).2, a4⟩
  · have hG : goodL (rcptGood x) = (x.list.getD 0 Item.none).text := by
      unfold rcptGood rI
      rcases (good_iff _).1 ⟨a1, a2⟩ with e | e <;> rw [e]
      · rw [value_nil]; rfl
      · rw [value_one]; rfl
    have hN : num (rcptGas x) = (x.list.getD 1 Item.none).text := value_back a3
    have hM : (rcptLogs x).map logItem = (x.list.getD 2 Item.none).list := by
      unfold rcptLogs rI
      rw [List.map_map]
      exact (List.map_congr_left (fun y hy => (hL y hy).1)).trans (List.map_id _)
    have f0' : Item.mk false (x.list.getD 0 Item.none).text [] = x.list.getD 0 Item.none := f0.symm
    have f1' : Item.mk false (x.list.getD 1 Item.none).text [] = x.list.getD 1 Item.none := f1.symm
    unfold rcptItem
    rw [hG, hN, hM, f0', f1', ← g1, ← e3, ← e1]
theorem value_lt (l : List UInt8) : (value l).1 < 18446744073709551616 := by
  unfold value
  split
  · exact (by decide)
  · exact val_lt64 (by omega)
theorem rcpt_lt (x : Item) : rcptGas x < 18446744073709551616 := value_lt _
end Go.Proofs.YtmjblnhnadffmaaDoor
