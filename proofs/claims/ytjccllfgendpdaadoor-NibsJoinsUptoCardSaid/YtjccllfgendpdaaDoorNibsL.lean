/- The walks of the four laws of nibs: each returns true, and nothing that was there is changed. -/
import Derived.Test.YtjccllfgendpdaaDoorNibsD
import Derived.Test.YtjccllfgendpdaaDoorNibsE
namespace Go.Proofs.YtjccllfgendpdaaDoor
open Go.RowKit

theorem form_lit (s : ByteArray) (leaf : Bool) {p : List UInt8} {er : Int} (h : form s.data.toList leaf = (p, er)) (w : World) (hs : s.size ≤ 1073741824) :
    Calls Tryd.prog 15 #[.string s, .bool leaf] w fun e w' => e = .returned (.tuple #[.string ⟨p.toArray⟩, .int .i64 er]) ∧ Below w.heap.size w w' := by
  rw [← formV_of h]; exact form_any s leaf w hs
theorem formRef_lit (s : ByteArray) (leaf : Bool) {p : List UInt8} {er : Int} (h : form s.data.toList leaf = (p, er)) (w : World) (hs : s.size ≤ 1073741824) :
    Calls Tryd.prog 16 #[.string s, .bool leaf] w fun e w' => e = .returned (.tuple #[.string ⟨p.toArray⟩, .int .i64 er]) ∧ Below w.heap.size w w' := by
  rw [← formV_of h]; exact formRef_any s leaf w hs
theorem read_lit (s : ByteArray) {p : List UInt8} {q : Bool} {er : Int} (h : read s.data.toList = (p, q, er)) (w : World) (hs : s.size ≤ 1073741824) :
    Calls Tryd.prog 21 #[.string s] w fun e w' => e = .returned (.tuple #[.string ⟨p.toArray⟩, .bool q, .int .i64 er]) ∧ Below w.heap.size w w' := by
  rw [← readV_of h]; exact read_any s w hs
theorem readRef_lit (s : ByteArray) {p : List UInt8} {q : Bool} {er : Int} (h : read s.data.toList = (p, q, er)) (w : World) (hs : s.size ≤ 1073741824) :
    Calls Tryd.prog 22 #[.string s] w fun e w' => e = .returned (.tuple #[.string ⟨p.toArray⟩, .bool q, .int .i64 er]) ∧ Below w.heap.size w w' := by
  rw [← readV_of h]; exact readRef_any s w hs

set_option maxRecDepth 100000 in
set_option maxHeartbeats 800000 in
theorem shown_any (w : World) : Calls Tryd.prog 14 #[] w fun e w' => e = .returned (.bool true) ∧ Below w.heap.size w w' := by
  have h1 := fun wx => form_lit ⟨#[1, 2, 3]⟩ false (p := [17, 35]) (er := 0) (by decide) wx (by decide)
  have h2 := fun wx => of_any ⟨#[18]⟩ wx (by decide)
  have h3 : halves (⟨#[18]⟩ : ByteArray).data.toList = [1, 2] := by decide
  rw [h3] at h2
  have H1 := Lib.hid h1
  have H2 := Lib.hid h2
  clear h1 h2 h3
  go_enter Tryd.func14, Tryd.ntmps14
  go_wp2_with fail
  refine (H1.out _).mono ?_
  rintro e w1 ⟨rfl, hb1⟩
  go_wp2_with fail
  refine (H2.out _).mono ?_
  rintro e w2 ⟨rfl, hb2⟩
  go_wp2
  go_ret
  exact ⟨rfl, hb1.trans (hb2.mono hb1.size)⟩

set_option maxRecDepth 100000 in
set_option maxHeartbeats 1600000 in
theorem law_forms (a b : ByteArray) (leaf : Bool) (w : World) (ha : a.size ≤ 1073741824) (hb : b.size ≤ 1073741824) :
    Calls Tryd.prog 3 #[.string a, .string b, .bool leaf] w fun e w' => e = .returned (.bool true) ∧ Below w.heap.size w w' := by
  obtain ⟨p, er, hf⟩ : ∃ p er, form a.data.toList leaf = (p, er) := ⟨_, _, rfl⟩
  have H1 := Lib.hid (fun wx => form_lit a leaf hf wx ha)
  have H2 := Lib.hid (fun wx => formRef_lit a leaf hf wx ha)
  clear hf
  go_enter Tryd.func3, Tryd.ntmps3
  go_wp2_with fail
  refine (shown_any _).mono ?_
  rintro e w1 ⟨rfl, hb1⟩
  go_wp2_with fail
  refine (H1.out _).mono ?_
  rintro e w2 ⟨rfl, hb2⟩
  go_wp2_with fail
  refine (H2.out _).mono ?_
  rintro e w3 ⟨rfl, hb3⟩
  go_wp2_with fail
  refine (of_any a _ ha).mono ?_
  rintro e w4 ⟨rfl, hb4⟩
  go_wp2_with fail
  refine (ofRef_any a _ (by omega)).mono ?_
  rintro e w5 ⟨rfl, hb5⟩
  go_wp2_with fail
  refine (common_any a b _ (by omega) (by omega)).mono ?_
  rintro e w6 ⟨rfl, hb6⟩
  go_wp2_with fail
  refine (commonRef_any a b _ (by omega) (by omega)).mono ?_
  rintro e w7 ⟨rfl, hb7⟩
  go_wp2
  go_ret
  have b2 := hb1.trans (hb2.mono hb1.size)
  have b3 := b2.trans (hb3.mono b2.size)
  have b4 := b3.trans (hb4.mono b3.size)
  have b5 := b4.trans (hb5.mono b4.size)
  have b6 := b5.trans (hb6.mono b5.size)
  exact ⟨rfl, b6.trans (hb7.mono b6.size)⟩

set_option maxRecDepth 100000 in
set_option maxHeartbeats 1600000 in
theorem law_reads (s : ByteArray) (w : World) (hs : s.size ≤ 1073741824) :
    Calls Tryd.prog 5 #[.string s] w fun e w' => e = .returned (.bool true) ∧ Below w.heap.size w w' := by
  obtain ⟨p, q, er, hf⟩ : ∃ p q er, read s.data.toList = (p, q, er) := ⟨_, _, _, rfl⟩
  have H1 := Lib.hid (fun wx => read_lit s hf wx hs)
  have H2 := Lib.hid (fun wx => readRef_lit s hf wx hs)
  clear hf
  go_enter Tryd.func5, Tryd.ntmps5
  go_wp2_with fail
  refine (shown_any _).mono ?_
  rintro e w1 ⟨rfl, hb1⟩
  go_wp2_with fail
  refine (H1.out _).mono ?_
  rintro e w2 ⟨rfl, hb2⟩
  go_wp2_with fail
  refine (H2.out _).mono ?_
  rintro e w3 ⟨rfl, hb3⟩
  go_wp2
  go_ret
  have b2 := hb1.trans (hb2.mono hb1.size)
  exact ⟨by simp, b2.trans (hb3.mono b2.size)⟩
end Go.Proofs.YtjccllfgendpdaaDoor
